/- A part of the proof: EngP, EngSort, EngCompact. -/
import Derived.Test.YtkdilffhbejjaaaGreatEngO
import Derived.Shelf.Sort.Plain
import Derived.Shelf.Slices.In.SortNone
import Derived.Shelf.Slices.CompactI
set_option linter.unusedVariables false
set_option linter.unusedSimpArgs false
namespace Go.bM
open Go Go.RowKit
structure M6(w w':World)(b off:Nat)(zs:List Int):Prop where
 os:w'.os=w.os
 tape:w'.tape=w.tape
 output:w'.output=w.output
 size:w.heap.size<=w'.heap.size
 other:∀k,k<w.heap.size->k≠b->w'.heap[k]?=w.heap[k]?row:∀C e,w.heap[b]?=some (.cells C e (0,0))->∃C',w'.heap[b]?=some (.cells C' e (0,0))/\C'.size=C.size/\∀j z,zs[j]?=some z->C'[off+j]?=some (.int .i64 z)
structure KU(P:Program)(f:Nat):Prop where
 fn:∃fn,P.funcs[f]?=some fn/\fn.body.isSome=true/\(fn.name== "runtime.NumGoroutine")=false
 empty:∀p cap w,Calls P f #[.slice p 0 cap] w λe w'=>e=.returned (.tuple #[])/\w'=w
 rows:∀b off cap zs w C e,w.heap[b]?=some (.cells C e (0,0))->(∀(j:Nat)z,zs[j]?=some z->C[off+j]?=some (.int .i64 z))->0<zs.length->zs.length<4611686018427387904->Calls P f #[.slice (some ⟨b,off,none⟩) zs.length cap] w λe w'=>e=.returned (.tuple #[])/\M6 w w' b off (jQ zs)
structure xF(P:Program)(f:Nat):Prop where
 fn:∃fn,P.funcs[f]?=some fn/\fn.body.isSome=true/\(fn.name== "runtime.NumGoroutine")=false
 empty:∀p cap w,Calls P f #[.slice p 0 cap] w λe w'=>e=.returned (.slice p 0 cap)/\w'=w
 rows:∀b off cap zs w C e,w.heap[b]?=some (.cells C e (0,0))->(∀(j:Nat)z,zs[j]?=some z->C[off+j]?=some (.int .i64 z))->0<zs.length->zs.length<4611686018427387904->zs.length<=cap->Calls P f #[.slice (some ⟨b,off,none⟩) zs.length cap] w λe w'=>e=.returned (.slice (some ⟨b,off,none⟩) (jR zs).length cap)/\M6 w w' b off (jR zs)
structure jZ(P:Program)(f T:Nat):Prop where
 clone:T≠1000000->T≠1000001->Gi P f T
 sort:T=1000000->KU P f
 compact:T=1000001->xF P f
theorem sB:∀{els:List (List D)}{zs:List Int},sn els=some zs->els=iX zs
 |[],zs,h=>by cases h;rfl|e::r,zs,h=>by
  unfold sn at h;split at h;.grind
  .rename_i z r' h1;cases h1;obtain⟨y,hy,rfl⟩:=fd.1 h;rw[sB hy];rfl
  grind
theorem yZ(x:Int):∀l,(A8 x l).length=l.length+1
 |[]=>rfl|y::r=>by
  unfold A8;split;.rfl
  .rw[eQ,yZ x r];rfl
theorem nT:∀l,(jQ l).length=l.length|[]=>rfl|x::r=>by rw[jQ,yZ,nT r];rfl
section
variable{P:Program}{X:Cx}{nt:NT}{s:St}{a:Act}{o:Oper}{dst:Option Nat}{aT:Nat}
theorem Er(hm:aH X s.mem s.aK){w':World}{b off:Nat}{zs:List Int}(h:M6 X.w w' b off zs)(hb:¬X.old b)(hF:∀o,¬X.F b o):Ext X {X with w:=w'}:=by
 have vR:=hm.low;refine⟨rfl,⟨h.os,h.tape,h.output,h.size,λk hk=>h.other k (vR k hk) λe=>hb (e▸hk)⟩,λ_ _ h=>h,λc o hc=>?_,λ_ _ h=>h,λ_ _ h=>.inl h⟩;have hne:c≠b:=by grind
 simp[World.cell?,h.other c (hm.p7 c o hc) hne]
theorem KV(hs:fu X nt s a){f:Nat}{x:Operand}{x':cc}{_ts:Array TypeId}{E:fT}(hc:KU P f)(hrun:(execOp a.eval o).run P X.w=.ok (.enter f #[a.eval x]) X.w)(hx:dh x=some x')(hr:yT s (x'.ev s.slots)=some E):dI P X s a o dst aT (.ck E):=by
 have hv:=bB hs hx;intro K Q hK;unfold Oper.wp;rw[hrun];have hu:∀Y:Cx,VR Y kg (.tuple #[]):=λY=>⟨#[],rfl,trivial⟩;unfold yT at hr;split at hr;.rename_i he;cases hr;rw[he]at hv;obtain⟨ad,b,off,sz,KW,_⟩:=hv;rw[KW];refine Calls.mono (hc.empty ad 0 X.w) ?_;rintro en w'⟨rfl,rfl⟩;exact hK X _ (Ext.refl X) (hu X) hs.mem ⟨bc _,λv L h=>.inl h⟩
 .rename_i lv sl au off len sz he;split at hr
  .rename_i els hrow;obtain⟨zs,hz,pP⟩:=kb.1 hr;split at pP
   .rename_i abr;obtain⟨rfl,rfl,rfl,hlt⟩:=abr;cases pP;rw[he]at hv;have Bk:=sB hz;have hlen:els.length=zs.length:=by rw[Bk];simp[iX]
    obtain⟨L,hL,hE,hg⟩:=mQ hs.mem hrow;obtain⟨L1,ad,cap,M3,h1,KW,h3,h4⟩:=hv;rw[hL]at M3;cases M3;rw[KW];by_cases h0:els.length=0;.have hz0:zs=[]:=d8 (by omega);subst hz0;rw[h0];refine Calls.mono (hc.empty ad cap X.w) ?_;rintro en w'⟨rfl,rfl⟩;refine hK X _ (Ext.refl X) (hu X) ?_ ⟨bc _,λv L h=>.inl h⟩;show aH X (cC s.mem lv sl (some (.row au []))) s.aK;refine hs.mem.congr (λcM cZ=>?_) λ_=>rfl;rw[cG]<;>grind
    .obtain⟨rfl,h5⟩:=h4 (by omega);have hc0:0<L.cap:=by omega
     obtain⟨C,ce,uP,pX,ZB,hb4,hb5,hb6,hap,Bn⟩:=n4 hs.mem hg hL hc0;have hC:∀(j:Nat)z,zs[j]?=some z->C[L.o+j]?=some (.int .i64 z):=by
      intro j z hj;have hq:els[j]?=some [.sc (.int .i64 z)]:=by rw[Bk];simp[iX,hj]
      obtain⟨v,hv,hd⟩:=Bn j _ 0 _ hq rfl;rw[h1,pv,fa]at hv;rw[hv];cases hd with|sc v _=>rfl
     have cH:=hc.rows L.b L.o cap zs X.w C ce uP hC (by omega) (by omega);rw[<-hlen]at cH;refine Calls.mono cH ?_;rintro en w'⟨rfl,hw⟩;have hx:=Er hs.mem hw pX hb4;refine hK {X with w:=w'} _ hx (hu _) ?_ ⟨bc _,λv L h=>.inl h⟩;obtain⟨C',hq1,xG,QL⟩:=hw.row C ce uP;have hmm:aH {X with w:=w'} (cC s.mem lv sl none) s.aK:=(hs.mem.erase lv sl).move hx (λk v M a b c=>by obtain⟨M',lP,h2⟩:=(hs.mem.erase lv sl).dV a;rw[b]at lP;injection lP with lP;subst lP;exact hw.other M.b (h2 c).1 (hap k v M a b c)) (λ_ _ _ _ _ _ _ h=>h) (λb o hb=>by have:=hs.mem.p7 b o hb;have:=hw.size;show b<w'.heap.size;omega);have cj:(jQ zs).length=zs.length:=nT zs;refine hmm.reset (e:=.row au (iX (jQ zs))) (L:=L) hL ⟨by simp only[iX,ll];omega,λe he=>?_,λ_=>⟨⟨pX,C',ce,hq1,by rw[xG];exact ZB⟩,hb4⟩,λq f j x hq hj=>?_⟩ λk v M a b c _=>hap k v M a b c;.simp[iX,im]at he<;>grind
     .simp[iX,eJ,fd]at hq;obtain⟨z,KO,rfl⟩:=hq;have hj0:j=0/\x=.sc (.int .i64 z):=by grind
      obtain⟨rfl,rfl⟩:=hj0;refine⟨.int .i64 z,?_,.sc _ rfl⟩;rw[cell_of_row _ _ _ _ _ _ hq1,h1,pv]<;>grind
   grind
  grind
 grind
theorem nU:∀l,(jR l).length<=l.length
 |[]=>bc _|x::r=>by
  unfold jR;split;.simp
  .split;.exact Nat.le_succ_of_le (nU _)
   .exact Nat.succ_le_succ (nU _)
theorem DU(hs:fu X nt s a)(hfr:X.ρ aT=none){f:Nat}{x:Operand}{x':cc}{_ts:Array TypeId}{E:fT}(hc:xF P f)(hrun:(execOp a.eval o).run P X.w=.ok (.enter f #[a.eval x]) X.w)(hx:dh x=some x')(hr:mO s aT (x'.ev s.slots)=some E):dI P X s a o dst aT (.ck E):=by
 have hv:=bB hs hx;intro K Q hK;unfold Oper.wp;rw[hrun];unfold mO at hr;split at hr;.rename_i he;cases hr;rw[he]at hv;have nD:=hv;obtain⟨ad,b,off,sz,KW,_⟩:=hv;rw[KW]at nD⊢;refine Calls.mono (hc.empty ad 0 X.w) ?_;rintro en w'⟨rfl,rfl⟩;exact hK X _ (Ext.refl X) nD hs.mem ⟨bc _,λv L h=>.inl h⟩
 .rename_i lv sl au off len sz he;split at hr
  .rename_i els hrow;obtain⟨zs,hz,pP⟩:=kb.1 hr;split at pP
   .rename_i abr;obtain⟨rfl,rfl,rfl,hlt⟩:=abr;cases pP;rw[he]at hv;have nD:=hv;have Bk:=sB hz;have hlen:els.length=zs.length:=by rw[Bk];simp[iX]
    obtain⟨L,hL,hE,hg⟩:=mQ hs.mem hrow;obtain⟨L1,ad,cap,M3,h1,KW,h3,h4⟩:=hv;rw[hL]at M3;cases M3;rw[KW]at nD⊢;by_cases h0:els.length=0
    .have hz0:zs=[]:=d8 (by omega);subst hz0;obtain⟨Y,hw,g1,g2,g3,g4⟩:=M4 (n:=s.nv) hs.mem hfr (l:=0) (h':=0) nD hrow (bc _) (vd _) (by omega);rw[h0];refine Calls.mono (hc.empty ad cap X.w) ?_;rintro en w'⟨rfl,rfl⟩;rw[<-hw];refine hK Y _ g1 ?_ ?_ g4
     .have e:(if cap=0then ad else ad.map (·.add (0*1)))=ad:=by
       split;.rfl
       .rw[(h4 (by omega)).1];simp[Addr.add_lit]
      rw[e]at g2;exact g2
     .exact g3
    .obtain⟨rfl,h5⟩:=h4 (by omega);have hc0:0<L.cap:=by omega
     obtain⟨C,ce,uP,pX,ZB,hb4,hb5,hb6,hap,Bn⟩:=n4 hs.mem hg hL hc0;have hC:∀(j:Nat)z,zs[j]?=some z->C[L.o+j]?=some (.int .i64 z):=by
      intro j z hj;have hq:els[j]?=some [.sc (.int .i64 z)]:=by rw[Bk];simp[iX,hj]
      obtain⟨v,hv,hd⟩:=Bn j _ 0 _ hq rfl;rw[h1,pv,fa]at hv;rw[hv];cases hd with|sc v _=>rfl
     have cH:=hc.rows L.b L.o cap zs X.w C ce uP hC (by omega) (by omega) (by omega);rw[<-hlen]at cH;refine Calls.mono cH ?_;rintro en w'⟨rfl,hw⟩;have hx:=Er hs.mem hw pX hb4;let L':Loc:=⟨L.b,L.o,1,cap⟩;have afP:({X with w:=w'}:Cx).ρ aT=none:=hfr;have hxn:Ext {X with w:=w'} (({X with w:=w'}:Cx).name aT L'):=ez afP;have cj:=nU zs;refine hK (({X with w:=w'}:Cx).name aT L') _ (hx.trans hxn) ⟨L',_,cap,eT,rfl,rfl,by omega,λ_=>⟨by simp[L'],by simp[L']⟩⟩ ?_ ⟨bc _,λv M hw=>by
      rcases(iP (X:={X with w:=w'}) (v:=aT) (n:=0) (L:=L')).2 v M hw with hq|hq|hq;.exact .inl hq
      .exact .inr (.inl hq)
      .omega⟩;obtain⟨C',hq1,xG,QL⟩:=hw.row C ce uP;have hmm:aH {X with w:=w'} (cC s.mem lv sl none) s.aK:=(hs.mem.erase lv sl).move hx (λk v M a b c=>by obtain⟨M',lP,h2⟩:=(hs.mem.erase lv sl).dV a;rw[b]at lP;injection lP with lP;subst lP;exact hw.other M.b (h2 c).1 (hap k v M a b c)) (λ_ _ _ _ _ _ _ h=>h) (λb o hb=>by have:=hs.mem.p7 b o hb;have:=hw.size;show b<w'.heap.size;omega);refine(gI hmm afP).reset (e:=.row aT (iX (jR zs))) (L:=L') eT ⟨by simp only[iX,ll,L'];omega,λe he=>?_,λ_=>⟨⟨pX,C',ce,hq1,?_⟩,hb4⟩,λq f j x hq hj=>?_⟩ λk v M a b c _=>?_;.simp[iX,im]at he;obtain⟨z,_,rfl⟩:=he;rfl
     .show L.o+cap*1<=C'.size;rw[h1]at ZB;omega
     .simp[iX,eJ,fd]at hq;obtain⟨z,KO,rfl⟩:=hq;have hj0:j=0/\x=.sc (.int .i64 z):=by cases j with|zero=>simp at hj;exact⟨rfl,hj.symm⟩|succ j=>simp at hj
      obtain⟨rfl,rfl⟩:=hj0;refine⟨.int .i64 z,?_,.sc _ rfl⟩;show World.cell? w' ⟨L.b,L.o+q*1+0,none⟩=_;rw[cell_of_row _ _ _ _ _ _ hq1,pv];exact QL q z KO
     .obtain⟨M',lP,_⟩:=(hs.mem.erase lv sl).dV a;have h9:(({X with w:=w'}:Cx).name aT L').ρ v=some M':=hxn.loc _ _ lP;rw[b]at h9;cases h9;exact hap k v M a lP c
   grind
  grind
 grind
theorem OA(hs:fu X nt s a)(hfr:X.ρ aT=none){x:Operand}{x':cc}{row d:Nat}(hrun:(execOp a.eval o).run P X.w=.ok (.value (a.eval x)) X.w)(hx:dh x=some x'):dI P X s a o dst aT (.ck (Ao row (s.mem.length-1) d aT (x'.ev s.slots))):=by
 have hv:=bB hs hx;unfold Ao;split;.rename_i he;rw[he]at hv;obtain⟨ad,b,off,sz,KW,_⟩:=hv;refine .value (Y:=X.name aT ⟨0,0,row/65536,0⟩) (by rw[hrun,KW];rfl) (ez hfr) ⟨⟨0,0,row/65536,0⟩,ad,0,eT,rfl,rfl,bc _,λhq=>absurd hq (by simp)⟩ ?_ iP;exact(gI hs.mem hfr).add (e:=.row aT []) (L:=⟨0,0,row/65536,0⟩) eT ⟨by simp,by simp,λhq=>absurd hq (by simp),by simp⟩ λ_ _ _ _ _ _ _ hq=>absurd hq (by simp)
 .exact .quiet hs ⟨a.eval x,hrun,hv⟩
theorem KX(hs:fu X nt s a)(hfr:X.ρ aT=none){x:Operand}{x':cc}{d:Nat}{E:fT}(hrun:(execOp a.eval o).run P X.w=.ok (.value (a.eval x)) X.w)(hx:dh x=some x')(hr:HY s (s.mem.length-1) d aT (x'.ev s.slots)=some E):dI P X s a o dst aT (.ck E):=by
 have hv:=bB hs hx;unfold HY at hr;split at hr
 .rename_i cM cZ au off len sz he;rw[he]at hv;split at hr
  .rename_i els hrow;split at hr;.rename_i hle;have hle:=f1 hle;cases hr;obtain⟨Y,hw,g1,g2,g3,g4⟩:=Rn (n:=s.nv) (lv2:=s.mem.length-1) (sl2:=d) hs.mem hfr hv hrow hle;exact .value (Y:=Y) (by rw[hw];exact hrun) g1 g2 g3 g4
   grind
  grind
 grind
theorem Bu{call:Go.bM.Call}{sh:Nat->Bool}(hs:fu X nt s a)(hfr:X.ρ aT=none){x:Operand}{x':cc}{row d:Nat}{r:gT}(hrun:(execOp a.eval o).run P X.w=.ok (.value (a.eval x)) X.w)(hx:dh x=some x')(hr:ct.run call sh s row d aT (.HS x')=some r):dI P X s a o dst aT r:=by
 simp[ct.run]at hr;split at hr;.obtain⟨E,hE,rfl⟩:=fd.1 hr;exact KX hs hfr hrun hx hE
 .cases hr;exact OA hs hfr hrun hx
end
end Go.bM
namespace Go.bM
open Go Go.RowKit Go.Sort
theorem xH(x:Int):∀l,(A8 x l).Perm (x::l)
 |[]=>wn _|y::r=>by
  unfold A8;split;.exact wn _
  .exact((xH x r).cons y).trans (List.Perm.swap x y r)
theorem Bv:∀l,(jQ l).Perm l|[]=>wn _|x::r=>by rw[jQ];exact(xH x _).trans ((Bv r).cons x)
theorem y8(x:Int):∀l:List Int,l.Pairwise (·<=·)->(A8 x l).Pairwise (·<=·)
 |[],_=>by simp[A8]|y::r,h=>by
  rw[na]at h;unfold A8;split
  .rename_i hc;have hc:=dv hc;rw[na];refine⟨λz hz=>?_,na.2 h⟩;rcases dk.1 hz with rfl|hz;.exact hc
   .exact xf hc (h.1 z hz)
  .rename_i hc;have hc:=of_decide_eq_false hc;rw[na];refine⟨λz hz=>?_,y8 x r h.2⟩;rcases dk.1 ((xH x r).mem_iff.1 hz)with rfl|hz;.omega
   .exact h.1 z hz
theorem vX:∀l:List Int,(jQ l).Pairwise (·<=·)|[]=>List.Pairwise.nil|x::r=>y8 x _ (vX r)
theorem Gj(l:List Int):(l.mergeSort λx y=>decide (x<=y))=jQ l:=by refine List.Perm.eq_of_pairwise (le:=λa b=>a<=b) (λa b _ _ h1 h2=>Int.le_antisymm h1 h2) ?_ (vX l) ((List.mergeSort_perm _ _).trans (Bv l).symm);have:=List.pairwise_mergeSort (le:=λx y:Int=>decide (x<=y)) (λa b c h1 h2=>by simp only[db]at*;omega) (λa b=>by simp only[f5,db];omega) l;exact this.imp λh=>dv h
theorem Ip{w:World}{b off n:Nat}{zs:List Int}{os:Array Obj}(hz:∀C e,w.heap[b]?=some (.cells C e (0,0))->off+zs.length<=C.size)(hb:b<w.heap.size):M6 w (grow (putRow (Value.int .i64) (Go.Sort.ahead w n) b off zs.toArray) os) b off zs:=by
 refine⟨rfl,rfl,rfl,?_,λk hk hne=>?_,λC e hC=>?_⟩;.simp[grow,putRow,mapBlock,Go.Sort.ahead]
 .simp only[grow,putRow,mapBlock,Go.Sort.ahead];rw[pD (by simpa using hk),Array.getElem?_modify,be (pj hne)]
 .refine⟨putCells (Value.int .i64) off zs.toArray C,?_,by simp[putCells],λj z hj=>?_⟩;.simp only[grow,putRow,mapBlock,Go.Sort.ahead];rw[pD (by simpa using hb),Array.getElem?_modify,bb rfl,hC];rfl
  .have hlt:=(cf.1 hj).1;have hs:=hz C e hC;have hlt2:off+j<C.size:=by omega
   simp only[putCells];rw[Array.getElem?_mapIdx,o0 hlt2];simp only[ca];rw[bb ⟨by omega,by simpa using hlt⟩];rw[show off+j-off=j by omega];have:zs.toArray[j]! =z:=by rw[ww zs.toArray j (by simpa using hlt)];have:=(cf.1 hj).2;simpa using this
   rw[this]
theorem OB{P:Program}{ρ:Go.Shelf.Ren}(L:Go.Proofs.Lays.n189 P ρ)(hf:∃fn,P.funcs[ρ.f 189]?=some fn/\fn.body.isSome=true/\(fn.name== "runtime.NumGoroutine")=false):KU P (ρ.f 189):=by
 refine⟨hf,λp cap w=>Go.Proofs.Any.slices_Sort_int_none L p cap w,λb off cap zs w C e hC hz h0 hlt=>?_⟩;have hb:b<w.heap.size:=(lc.1 hC).1;have hH:Go.Sort.Holds (Value.int .i64) w b off zs.toArray:=by
  intro j hj;have hj:j<zs.length:=by simpa using hj
  have h1:=hz j zs[j] (al hj);refine⟨?_,?_⟩;.rw[ww zs.toArray j (by simpa using hj)];simp[World.cell?,hC,h1]
  .simp[World.frozen?,hC]
 refine Calls.mono (Go.Proofs.Any.slices_Sort_int L b off cap zs w hH hb hlt) ?_;rintro en w'⟨rfl,n,os,rfl⟩;refine⟨rfl,?_⟩;rw[Gj];refine Ip (λC' e' OC=>?_) hb;rw[hC]at OC;injection OC with OC;injection OC with OC _ _;subst OC;rw[nT];have:=hz (zs.length-1) zs[zs.length-1] (al (by omega));have:=(lc.1 this).1;omega
end Go.bM
namespace Go.bM
open Go Go.RowKit Go.Sort
def kC(x:Int):List Int->List Int|[]=>[]|y::r=>if y≠x then y::kC y r else kC y r
theorem uV(x:Int):∀r,jR (x::r)=x::kC x r
 |[]=>rfl|y::r=>by
  rw[jR];by_cases h:x=y;.subst h;rw[bm rfl,uV x r,kC,be (by simp)]
  .rw[bv h,uV y r,kC,bb (pj h)]
theorem Bw:∀(r:List Int)(x:Int),((List.range r.length).filter λj=>Lib.keeps (x::r).toArray (j+1)).map (λj=>(x::r).toArray[j+1]!)=kC x r
 |[],_=>rfl|y::r,x=>by
  have ih:=Bw r y;have h0:Lib.keeps (x::y::r).toArray (0+1)=decide (y≠x):=by simp[Lib.keeps]
  have hs:∀j,Lib.keeps (x::y::r).toArray (j+1+1)=Lib.keeps (y::r).toArray (j+1):=by intro j;simp[Lib.keeps]
  have hg:∀j,(x::y::r).toArray[j+1+1]! =(y::r).toArray[j+1]!:=by intro j;simp
  have Bx:(((List.range r.length).map Nat.succ).filter λj=>Lib.keeps (x::y::r).toArray (j+1)).map (λj=>(x::y::r).toArray[j+1]!)=kC y r:=by rw[List.filter_map,po,<-ih];have e1:((λj=>Lib.keeps (x::y::r).toArray (j+1))∘Nat.succ)=λj=>Lib.keeps (y::r).toArray (j+1):=funext λj=>hs j;have e2:((λj=>(x::y::r).toArray[j+1]!)∘Nat.succ)=λj=>(y::r).toArray[j+1]!:=funext λj=>hg j;rw[e1,e2]
  rw[eQ,List.range_succ_eq_map,rc];rw[h0,kC];by_cases h:y≠x;.rw[bb h,bb (bm h),fj,Bx];simp
  .rw[be h,be (by simpa using h),Bx]
theorem KY:∀zs:List Int,Lib.compact zs=jR zs|[]=>rfl|x::r=>by rw[uV,<-Bw r x];unfold Lib.compact Lib.compactUpTo;rw[eQ,List.range_succ_eq_map,rc];rw[bb (by simp[Lib.keeps])];rw[fj,List.filter_map,po];rfl
theorem Gk{P:Program}{ρ:Go.Shelf.Ren}(L:Go.Proofs.Lays2.n20 P ρ)(hf:∃fn,P.funcs[ρ.f 20]?=some fn/\fn.body.isSome=true/\(fn.name== "runtime.NumGoroutine")=false):xF P (ρ.f 20):=by
 refine⟨hf,λp cap w=>Go.Proofs.Any.slices_Compact_int_empty L p cap w,λb off cap zs w C e hC hz h0 hlt hcap=>?_⟩;have hb:b<w.heap.size:=(lc.1 hC).1;have hH:Go.Sort.Holds (Value.int .i64) w b off zs.toArray:=by
  intro j hj;have hj:j<zs.length:=by simpa using hj
  have h1:=hz j zs[j] (al hj);refine⟨?_,?_⟩;.rw[ww zs.toArray j (by simpa using hj)];simp[World.cell?,hC,h1]
  .simp[World.frozen?,hC]
 refine Calls.mono (Go.Proofs.Any.slices_Compact_int L b off cap zs w hH (by omega) hcap) ?_;rintro en w'⟨rfl,q,rfl⟩;rw[KY];refine⟨rfl,?_⟩;have hle:=nU zs;have:=Ip (w:=w) (b:=b) (off:=off) (n:=q) (zs:=jR zs++List.replicate (zs.length-(jR zs).length) 0) (os:=#[]) (λC' e' OC=>by rw[hC]at OC;injection OC with OC;injection OC with OC _ _;subst OC;have h2:=hz (zs.length-1) zs[zs.length-1] (al (by omega));have h2:=(lc.1 h2).1;simp only[ba,jn];omega) hb;rw[grow_empty]at this;refine⟨this.os,this.tape,this.output,this.size,this.other,λC e hC=>?_⟩;obtain⟨C',h1,h2,h3⟩:=this.row C e hC;refine⟨C',h1,h2,λj z hj=>h3 j z ?_⟩;rw[ol (cf.1 hj).1];exact hj
end Go.bM
