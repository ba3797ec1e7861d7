/- Parts of the proof. -/
import Derived.Test.YtclkonemhghbkaaGreatEngO
import Derived.Shelf.Sort.Plain
import Derived.Shelf.Slices.In.SortNone
import Derived.Shelf.Slices.CompactI
set_option linter.unusedVariables false
set_option linter.unusedSimpArgs false
set_option linter.defProp false
namespace Go.bK
open Go Go.RowKit
structure Pw(w w':World)(b off:Nat)(zs:List Int):Prop where
 os:w'.os=w.os
 tape:w'.tape=w.tape
 output:w'.output=w.output
 size:w.heap.size<=w'.heap.size
 other:∀k,k<w.heap.size->k≠b->w'.heap[k]?=w.heap[k]?row:∀C e,w.heap[b]?=some (.cells C e (0,0))->∃C',w'.heap[b]?=some (.cells C' e (0,0))/\C'.size=C.size/\∀j z,zs[j]?=some z->C'[off+j]?=some (.int .i64 z)
structure Nk(P:Program)(f:Nat):Prop where
 fn:∃fn,P.funcs[f]?=some fn/\fn.body.isSome=true/\(fn.name== "runtime.NumGoroutine")=false
 empty:∀p cap w,Calls P f #[.slice p 0 cap] w λe w'=>e=.returned (.tuple #[])/\w'=w
 rows:∀b off cap zs w C e,w.heap[b]?=some (.cells C e (0,0))->(∀(j:Nat)z,zs[j]?=some z->C[off+j]?=some (.int .i64 z))->0<zs.length->zs.length<4611686018427387904->Calls P f #[.slice (some ⟨b,off,none⟩) zs.length cap] w λe w'=>e=.returned (.tuple #[])/\Pw w w' b off (j4 zs)
structure zf(P:Program)(f:Nat):Prop where
 fn:∃fn,P.funcs[f]?=some fn/\fn.body.isSome=true/\(fn.name== "runtime.NumGoroutine")=false
 empty:∀p cap w,Calls P f #[.slice p 0 cap] w λe w'=>e=.returned (.slice p 0 cap)/\w'=w
 rows:∀b off cap zs w C e,w.heap[b]?=some (.cells C e (0,0))->(∀(j:Nat)z,zs[j]?=some z->C[off+j]?=some (.int .i64 z))->0<zs.length->zs.length<4611686018427387904->zs.length<=cap->Calls P f #[.slice (some ⟨b,off,none⟩) zs.length cap] w λe w'=>e=.returned (.slice (some ⟨b,off,none⟩) (j5 zs).length cap)/\Pw w w' b off (j5 zs)
structure kB(P:Program)(f T:Nat):Prop where
 clone:T≠1000000->T≠1000001->xH P f T
 sort:T=1000000->Nk P f
 compact:T=1000001->zf P f
def tU:∀{els:List (List D)}{zs:List Int},tF els=some zs->els=jr zs
 |[],zs,h=>by cases h;rfl|e::r,zs,h=>by
  unfold tF at h;split at h;.grind
  .rename_i z r' h1;cases h1;obtain⟨y,hy,rfl⟩:=fb.1 h;rw[tU hy];rfl
  grind
def Az(x:Int):∀l,(Cy x l).length=l.length+1
 |[]=>rfl|y::r=>by
  unfold Cy;split;.rfl
  .rw[fd,Az x r];rfl
def oE:∀l,(j4 l).length=l.length|[]=>rfl|x::r=>by rw[j4,Az,oE r];rfl
section
variable{P:Program}{X:Cx}{nt:NT}{s:St}{a:Act}{o:Oper}{dst:Option Nat}{aP:Nat}
def F1(hm:aF X s.mem s.aI){w':World}{b off:Nat}{zs:List Int}(h:Pw X.w w' b off zs)(hb:¬X.old b)(hF:∀o,¬X.F b o):Ext X {X with w:=w'}:=by
 have mD:=hm.low;refine⟨rfl,⟨h.os,h.tape,h.output,h.size,λk hk=>h.other k (mD k hk) λe=>hb (e▸hk)⟩,λ_ _ h=>h,λc o hc=>?_,λ_ _ h=>h,λ_ _ h=>.inl h⟩;have hne:c≠b:=by grind
 simp[World.cell?,h.other c (hm.nG c o hc) hne]
def Nl(hs:fI X nt s a){f:Nat}{x:Operand}{x':cu}{_ts:Array TypeId}{E:fD}(hc:Nk P f)(hrun:(execOp a.eval o).run P X.w=.ok (.enter f #[a.eval x]) X.w)(hx:dD x=some x')(hr:Au s (x'.ev s.slots)=some E):dF P X s a o dst aP (.bT E):=by
 have hv:=bC hs hx;intro K Q hK;unfold Oper.wp;rw[hrun];have hu:∀Y:Cx,VR Y kP (.tuple #[]):=λY=>⟨#[],rfl,trivial⟩;unfold Au at hr;split at hr;.rename_i he;cases hr;rw[he]at hv;obtain⟨ad,b,off,sz,Nn,_⟩:=hv;rw[Nn];refine Calls.mono (hc.empty ad 0 X.w) ?_;rintro en w'⟨rfl,rfl⟩;exact hK X _ (Ext.refl X) (hu X) hs.mem ⟨bc _,λv L h=>.inl h⟩
 .rename_i lv sl ak off len sz he;split at hr
  .rename_i els hrow;obtain⟨zs,hz,qA⟩:=lr.1 hr;split at qA
   .rename_i aez;obtain⟨rfl,rfl,rfl,hlt⟩:=aez;cases qA;rw[he]at hv;have CJ:=tU hz;have hlen:els.length=zs.length:=by rw[CJ];simp[jr]
    obtain⟨L,hL,hE,hg⟩:=nI hs.mem hrow;obtain⟨L1,ad,cap,Ia,h1,Nn,h3,h4⟩:=hv;rw[hL]at Ia;cases Ia;rw[Nn];by_cases h0:els.length=0;.have hz0:zs=[]:=eI (by omega);subst hz0;rw[h0];refine Calls.mono (hc.empty ad cap X.w) ?_;rintro en w'⟨rfl,rfl⟩;refine hK X _ (Ext.refl X) (hu X) ?_ ⟨bc _,λv L h=>.inl h⟩;show aF X (bJ s.mem lv sl (some (.row ak []))) s.aI;refine hs.mem.congr (λcy cU=>?_) λ_=>rfl;rw[cO]<;>grind
    .obtain⟨rfl,h5⟩:=h4 (by omega);have hc0:0<L.cap:=by omega
     obtain⟨C,ce,tj,pV,hb3,hb4,hb5,hb6,hap,xD⟩:=oM hs.mem hg hL hc0;have hC:∀(j:Nat)z,zs[j]?=some z->C[L.o+j]?=some (.int .i64 z):=by
      intro j z hj;have hq:els[j]?=some [.sc (.int .i64 z)]:=by rw[CJ];simp[jr,hj]
      obtain⟨v,hv,hd⟩:=xD j _ 0 _ hq rfl;rw[h1,ra,fg]at hv;rw[hv];cases hd with|sc v _=>rfl
     have cG:=hc.rows L.b L.o cap zs X.w C ce tj hC (by omega) (by omega);rw[<-hlen]at cG;refine Calls.mono cG ?_;rintro en w'⟨rfl,hw⟩;have hx:=F1 hs.mem hw pV hb4;refine hK {X with w:=w'} _ hx (hu _) ?_ ⟨bc _,λv L h=>.inl h⟩;obtain⟨C',hq1,y8,Tm⟩:=hw.row C ce tj;have hmm:aF {X with w:=w'} (bJ s.mem lv sl none) s.aI:=(hs.mem.erase lv sl).move hx (λk v M a b c=>by obtain⟨M',kR,h2⟩:=(hs.mem.erase lv sl).dh a;rw[b]at kR;injection kR with kR;subst kR;exact hw.other M.b (h2 c).1 (hap k v M a b c)) (λ_ _ _ _ _ _ _ h=>h) (λb o hb=>by have:=hs.mem.nG b o hb;have:=hw.size;show b<w'.heap.size;omega);have cv:(j4 zs).length=zs.length:=oE zs;refine hmm.reset (e:=.row ak (jr (j4 zs))) (L:=L) hL ⟨by simp only[jr,lh];omega,λe he=>?_,λ_=>⟨⟨pV,C',ce,hq1,by rw[y8];exact hb3⟩,hb4⟩,λq f j x hq hj=>?_⟩ λk v M a b c _=>hap k v M a b c;.simp[jr,i6]at he<;>grind
     .simp[jr,fi,fb]at hq;obtain⟨z,Nc,rfl⟩:=hq;have hj0:j=0/\x=.sc (.int .i64 z):=by grind
      obtain⟨rfl,rfl⟩:=hj0;refine⟨.int .i64 z,?_,.sc _ rfl⟩;rw[cell_of_row _ _ _ _ _ _ hq1,h1,ra]<;>grind
   grind
  grind
 grind
def oF:∀l,(j5 l).length<=l.length
 |[]=>bc _|x::r=>by
  unfold j5;split;.simp
  .split;.exact Nat.le_succ_of_le (oF _)
   .exact Nat.succ_le_succ (oF _)
def Fl(hs:fI X nt s a)(hfr:X.ρ aP=none){f:Nat}{x:Operand}{x':cu}{_ts:Array TypeId}{E:fD}(hc:zf P f)(hrun:(execOp a.eval o).run P X.w=.ok (.enter f #[a.eval x]) X.w)(hx:dD x=some x')(hr:nF s aP (x'.ev s.slots)=some E):dF P X s a o dst aP (.bT E):=by
 have hv:=bC hs hx;intro K Q hK;unfold Oper.wp;rw[hrun];unfold nF at hr;split at hr;.rename_i he;cases hr;rw[he]at hv;have nh:=hv;obtain⟨ad,b,off,sz,Nn,_⟩:=hv;rw[Nn]at nh⊢;refine Calls.mono (hc.empty ad 0 X.w) ?_;rintro en w'⟨rfl,rfl⟩;exact hK X _ (Ext.refl X) nh hs.mem ⟨bc _,λv L h=>.inl h⟩
 .rename_i lv sl ak off len sz he;split at hr
  .rename_i els hrow;obtain⟨zs,hz,qA⟩:=lr.1 hr;split at qA
   .rename_i aez;obtain⟨rfl,rfl,rfl,hlt⟩:=aez;cases qA;rw[he]at hv;have nh:=hv;have CJ:=tU hz;have hlen:els.length=zs.length:=by rw[CJ];simp[jr]
    obtain⟨L,hL,hE,hg⟩:=nI hs.mem hrow;obtain⟨L1,ad,cap,Ia,h1,Nn,h3,h4⟩:=hv;rw[hL]at Ia;cases Ia;rw[Nn]at nh⊢;by_cases h0:els.length=0
    .have hz0:zs=[]:=eI (by omega);subst hz0;obtain⟨Y,hw,g1,g2,g3,g4⟩:=Pt (n:=s.nv) hs.mem hfr (l:=0) (h':=0) nh hrow (bc _) (t6 _) (by omega);rw[h0];refine Calls.mono (hc.empty ad cap X.w) ?_;rintro en w'⟨rfl,rfl⟩;rw[<-hw];refine hK Y _ g1 ?_ ?_ g4
     .have e:(if cap=0then ad else ad.map (·.add (0*1)))=ad:=by
       split;.rfl
       .rw[(h4 (by omega)).1];simp[Addr.add_lit]
      rw[e]at g2;exact g2
     .exact g3
    .obtain⟨rfl,h5⟩:=h4 (by omega);have hc0:0<L.cap:=by omega
     obtain⟨C,ce,tj,pV,hb3,hb4,hb5,hb6,hap,xD⟩:=oM hs.mem hg hL hc0;have hC:∀(j:Nat)z,zs[j]?=some z->C[L.o+j]?=some (.int .i64 z):=by
      intro j z hj;have hq:els[j]?=some [.sc (.int .i64 z)]:=by rw[CJ];simp[jr,hj]
      obtain⟨v,hv,hd⟩:=xD j _ 0 _ hq rfl;rw[h1,ra,fg]at hv;rw[hv];cases hd with|sc v _=>rfl
     have cG:=hc.rows L.b L.o cap zs X.w C ce tj hC (by omega) (by omega) (by omega);rw[<-hlen]at cG;refine Calls.mono cG ?_;rintro en w'⟨rfl,hw⟩;have hx:=F1 hs.mem hw pV hb4;let L':Loc:=⟨L.b,L.o,1,cap⟩;have ajz:({X with w:=w'}:Cx).ρ aP=none:=hfr;have hxn:Ext {X with w:=w'} (({X with w:=w'}:Cx).name aP L'):=eC ajz;have cv:=oF zs;refine hK (({X with w:=w'}:Cx).name aP L') _ (hx.trans hxn) ⟨L',_,cap,eS,rfl,rfl,by omega,λ_=>⟨by simp[L'],by simp[L']⟩⟩ ?_ ⟨bc _,λv M hw=>by
      rcases(ia (X:={X with w:=w'}) (v:=aP) (n:=0) (L:=L')).2 v M hw with hq|hq|hq;.exact .inl hq
      .exact .inr (.inl hq)
      .omega⟩;obtain⟨C',hq1,y8,Tm⟩:=hw.row C ce tj;have hmm:aF {X with w:=w'} (bJ s.mem lv sl none) s.aI:=(hs.mem.erase lv sl).move hx (λk v M a b c=>by obtain⟨M',kR,h2⟩:=(hs.mem.erase lv sl).dh a;rw[b]at kR;injection kR with kR;subst kR;exact hw.other M.b (h2 c).1 (hap k v M a b c)) (λ_ _ _ _ _ _ _ h=>h) (λb o hb=>by have:=hs.mem.nG b o hb;have:=hw.size;show b<w'.heap.size;omega);refine(gH hmm ajz).reset (e:=.row aP (jr (j5 zs))) (L:=L') eS ⟨by simp only[jr,lh,L'];omega,λe he=>?_,λ_=>⟨⟨pV,C',ce,hq1,?_⟩,hb4⟩,λq f j x hq hj=>?_⟩ λk v M a b c _=>?_;.simp[jr,i6]at he;obtain⟨z,_,rfl⟩:=he;rfl
     .show L.o+cap*1<=C'.size;rw[h1]at hb3;omega
     .simp[jr,fi,fb]at hq;obtain⟨z,Nc,rfl⟩:=hq;have hj0:j=0/\x=.sc (.int .i64 z):=by cases j with|zero=>simp at hj;exact⟨rfl,hj.symm⟩|succ j=>simp at hj
      obtain⟨rfl,rfl⟩:=hj0;refine⟨.int .i64 z,?_,.sc _ rfl⟩;show World.cell? w' ⟨L.b,L.o+q*1+0,none⟩=_;rw[cell_of_row _ _ _ _ _ _ hq1,ra];exact Tm q z Nc
     .obtain⟨M',kR,_⟩:=(hs.mem.erase lv sl).dh a;have h9:(({X with w:=w'}:Cx).name aP L').ρ v=some M':=hxn.loc _ _ kR;rw[b]at h9;cases h9;exact hap k v M a kR c
   grind
  grind
 grind
def Q8{lq:Nat}(hs:fI X nt s a)(hfr:X.ρ aP=none){x:Operand}{x':cu}{row d:Nat}(hrun:(execOp a.eval o).run P X.w=.ok (.value (a.eval x)) X.w)(hx:dD x=some x'):dF P X s a o dst aP (.bT (BP row lq d aP (x'.ev s.slots))):=by
 have hv:=bC hs hx;unfold BP;split;.rename_i he;rw[he]at hv;obtain⟨ad,b,off,sz,Nn,_⟩:=hv;refine .value (Y:=X.name aP ⟨0,0,row/65536,0⟩) (by rw[hrun,Nn];rfl) (eC hfr) ⟨⟨0,0,row/65536,0⟩,ad,0,eS,rfl,rfl,bc _,λhq=>absurd hq (by simp)⟩ ?_ ia;exact(gH hs.mem hfr).add (e:=.row aP []) (L:=⟨0,0,row/65536,0⟩) eS ⟨by simp,by simp,λhq=>absurd hq (by simp),by simp⟩ λ_ _ _ _ _ _ _ hq=>absurd hq (by simp)
 .exact .quiet hs ⟨a.eval x,hrun,hv⟩
def Np{lq:Nat}(hs:fI X nt s a)(hfr:X.ρ aP=none){x:Operand}{x':cu}{d:Nat}{E:fD}(hrun:(execOp a.eval o).run P X.w=.ok (.value (a.eval x)) X.w)(hx:dD x=some x')(hr:JO s lq d aP (x'.ev s.slots)=some E):dF P X s a o dst aP (.bT E):=by
 have hv:=bC hs hx;unfold JO at hr;split at hr
 .rename_i cy cU ak off len sz he;rw[he]at hv;split at hr
  .rename_i els hrow;split at hr;.rename_i hle;have hle:=fr hle;injection hr with hr;subst hr;obtain⟨Y,hw,g1,g2,g3,g4⟩:=TY (n:=s.nv) (lv2:=lq) (sl2:=d) hs.mem hfr hv hrow hle;exact .value (Y:=Y) (by rw[hw];exact hrun) g1 g2 g3 g4
   grind
  grind
 grind
def CQ{call:Go.bK.Call}{sh:Nat->Bool}(hs:fI X nt s a)(hfr:X.ρ aP=none){x:Operand}{x':cu}{row d:Nat}{r:hU}(hrun:(execOp a.eval o).run P X.w=.ok (.value (a.eval x)) X.w)(hx:dD x=some x')(hr:cF.run call sh s row d aP (.JI x')=some r):dF P X s a o dst aP r:=by
 simp[cF.run]at hr;split at hr;.obtain⟨E,hE,rfl⟩:=fb.1 hr;exact Np hs hfr hrun hx hE
 .cases hr;exact Q8 hs hfr hrun hx
end
end Go.bK
namespace Go.bK
open Go Go.RowKit Go.Sort
def zg(x:Int):∀l,(Cy x l).Perm (x::l)
 |[]=>xi _|y::r=>by
  unfold Cy;split;.exact xi _
  .exact((zg x r).cons y).trans (List.Perm.swap x y r)
def CR:∀l,(j4 l).Perm l|[]=>xi _|x::r=>by rw[j4];exact(zg x _).trans ((CR r).cons x)
def AA(x:Int):∀l:List Int,l.Pairwise (·<=·)->(Cy x l).Pairwise (·<=·)
 |[],_=>by simp[Cy]|y::r,h=>by
  rw[pb]at h;unfold Cy;split
  .rename_i hc;have hc:=du hc;rw[pb];refine⟨λz hz=>?_,pb.2 h⟩;rcases dj.1 hz with rfl|hz;.exact hc
   .exact zr hc (h.1 z hz)
  .rename_i hc;have hc:=of_decide_eq_false hc;rw[pb];refine⟨λz hz=>?_,AA x r h.2⟩;rcases dj.1 ((zg x r).mem_iff.1 hz)with rfl|hz;.omega
   .exact h.1 z hz
def xI:∀l:List Int,(j4 l).Pairwise (·<=·)|[]=>List.Pairwise.nil|x::r=>AA x _ (xI r)
def Ig(l:List Int):(l.mergeSort λx y=>decide (x<=y))=j4 l:=by refine List.Perm.eq_of_pairwise (le:=λa b=>a<=b) (λa b _ _ h1 h2=>Int.le_antisymm h1 h2) ?_ (xI l) ((List.mergeSort_perm _ _).trans (CR l).symm);have:=List.pairwise_mergeSort (le:=λx y:Int=>decide (x<=y)) (λa b c h1 h2=>by simp only[db]at*;omega) (λa b=>by simp only[gc,db];omega) l;exact this.imp λh=>du h
def J6{w:World}{b off n:Nat}{zs:List Int}{os:Array Obj}(hz:∀C e,w.heap[b]?=some (.cells C e (0,0))->off+zs.length<=C.size)(hb:b<w.heap.size):Pw w (grow (putRow (Value.int .i64) (Go.Sort.ahead w n) b off zs.toArray) os) b off zs:=by
 refine⟨rfl,rfl,rfl,?_,λk hk hne=>?_,λC e hC=>?_⟩;.simp[grow,putRow,mapBlock,Go.Sort.ahead]
 .simp only[grow,putRow,mapBlock,Go.Sort.ahead];rw[rp (by simpa using hk),Array.getElem?_modify,be (pv hne)]
 .refine⟨putCells (Value.int .i64) off zs.toArray C,?_,by simp[putCells],λj z hj=>?_⟩;.simp only[grow,putRow,mapBlock,Go.Sort.ahead];rw[rp (by simpa using hb),Array.getElem?_modify,ba rfl,hC];rfl
  .have hlt:=(cb.1 hj).1;have hs:=hz C e hC;have hlt2:off+j<C.size:=by omega
   simp only[putCells];rw[Array.getElem?_mapIdx,pr hlt2];simp only[cf];rw[ba ⟨by omega,by simpa using hlt⟩];rw[show off+j-off=j by omega];have:zs.toArray[j]! =z:=by rw[xt zs.toArray j (by simpa using hlt)];have:=(cb.1 hj).2;simpa using this
   rw[this]
def Q9{P:Program}{ρ:Go.Shelf.Ren}(L:Go.Proofs.Lays.n189 P ρ)(hf:∃fn,P.funcs[ρ.f 189]?=some fn/\fn.body.isSome=true/\(fn.name== "runtime.NumGoroutine")=false):Nk P (ρ.f 189):=by
 refine⟨hf,λp cap w=>Go.Proofs.Any.slices_Sort_int_none L p cap w,λb off cap zs w C e hC hz h0 hlt=>?_⟩;have hb:b<w.heap.size:=(lO.1 hC).1;have hH:Go.Sort.Holds (Value.int .i64) w b off zs.toArray:=by
  intro j hj;have hj:j<zs.length:=by simpa using hj
  have h1:=hz j zs[j] (aw hj);refine⟨?_,?_⟩;.rw[xt zs.toArray j (by simpa using hj)];simp[World.cell?,hC,h1]
  .simp[World.frozen?,hC]
 refine Calls.mono (Go.Proofs.Any.slices_Sort_int L b off cap zs w hH hb hlt) ?_;rintro en w'⟨rfl,n,os,rfl⟩;refine⟨rfl,?_⟩;rw[Ig];refine J6 (λC' e' Ra=>?_) hb;rw[hC]at Ra;injection Ra with Ra;injection Ra with Ra _ _;subst Ra;rw[oE];have:=hz (zs.length-1) zs[zs.length-1] (aw (by omega));have:=(lO.1 this).1;omega
def lz(x:Int):List Int->List Int|[]=>[]|y::r=>if y≠x then y::lz y r else lz y r
def wo(x:Int):∀r,j5 (x::r)=x::lz x r
 |[]=>rfl|y::r=>by
  rw[j5];by_cases h:x=y;.subst h;rw[bm rfl,wo x r,lz,be (by simp)]
  .rw[bo h,wo y r,lz,ba (pv h)]
def CS:∀(r:List Int)(x:Int),((List.range r.length).filter λj=>Lib.keeps (x::r).toArray (j+1)).map (λj=>(x::r).toArray[j+1]!)=lz x r
 |[],_=>rfl|y::r,x=>by
  have ih:=CS r y;have h0:Lib.keeps (x::y::r).toArray (0+1)=decide (y≠x):=by simp[Lib.keeps]
  have hs:∀j,Lib.keeps (x::y::r).toArray (j+1+1)=Lib.keeps (y::r).toArray (j+1):=by intro j;simp[Lib.keeps]
  have hg:∀j,(x::y::r).toArray[j+1+1]! =(y::r).toArray[j+1]!:=by intro j;simp
  have CT:(((List.range r.length).map Nat.succ).filter λj=>Lib.keeps (x::y::r).toArray (j+1)).map (λj=>(x::y::r).toArray[j+1]!)=lz y r:=by rw[List.filter_map,px,<-ih];have e1:((λj=>Lib.keeps (x::y::r).toArray (j+1))∘Nat.succ)=λj=>Lib.keeps (y::r).toArray (j+1):=funext λj=>hs j;have e2:((λj=>(x::y::r).toArray[j+1]!)∘Nat.succ)=λj=>(y::r).toArray[j+1]!:=funext λj=>hg j;rw[e1,e2]
  rw[fd,List.range_succ_eq_map,pD];rw[h0,lz];by_cases h:y≠x;.rw[ba h,ba (bm h),f1,CT];simp
  .rw[be h,be (by simpa using h),CT]
def Nq:∀zs:List Int,Lib.compact zs=j5 zs|[]=>rfl|x::r=>by rw[wo,<-CS r x];unfold Lib.compact Lib.compactUpTo;rw[fd,List.range_succ_eq_map,pD];rw[ba (by simp[Lib.keeps])];rw[f1,List.filter_map,px];rfl
def Ih{P:Program}{ρ:Go.Shelf.Ren}(L:Go.Proofs.Lays2.n20 P ρ)(hf:∃fn,P.funcs[ρ.f 20]?=some fn/\fn.body.isSome=true/\(fn.name== "runtime.NumGoroutine")=false):zf P (ρ.f 20):=by
 refine⟨hf,λp cap w=>Go.Proofs.Any.slices_Compact_int_empty L p cap w,λb off cap zs w C e hC hz h0 hlt hcap=>?_⟩;have hb:b<w.heap.size:=(lO.1 hC).1;have hH:Go.Sort.Holds (Value.int .i64) w b off zs.toArray:=by
  intro j hj;have hj:j<zs.length:=by simpa using hj
  have h1:=hz j zs[j] (aw hj);refine⟨?_,?_⟩;.rw[xt zs.toArray j (by simpa using hj)];simp[World.cell?,hC,h1]
  .simp[World.frozen?,hC]
 refine Calls.mono (Go.Proofs.Any.slices_Compact_int L b off cap zs w hH (by omega) hcap) ?_;rintro en w'⟨rfl,q,rfl⟩;rw[Nq];refine⟨rfl,?_⟩;have hle:=oF zs;have:=J6 (w:=w) (b:=b) (off:=off) (n:=q) (zs:=j5 zs++List.replicate (zs.length-(j5 zs).length) 0) (os:=#[]) (λC' e' Ra=>by rw[hC]at Ra;injection Ra with Ra;injection Ra with Ra _ _;subst Ra;have h2:=hz (zs.length-1) zs[zs.length-1] (aw (by omega));have h2:=(lO.1 h2).1;simp only[bb,kb];omega) hb;rw[grow_empty]at this;refine⟨this.os,this.tape,this.output,this.size,this.other,λC e hC=>?_⟩;obtain⟨C',h1,h2,h3⟩:=this.row C e hC;refine⟨C',h1,h2,λj z hj=>h3 j z ?_⟩;rw[nz (cb.1 hj).1];exact hj
end Go.bK
namespace Go.bK
open Go Go.RowKit
def cB(P:Program)(call:Go.bK.Call):Prop:=∀f args mem aI nv r mem' kC BU,call f args mem aI nv=some (r,mem',kC,BU)->∀(X:Cx)(bR:Array Value),aF X mem aI->(∀v,nv<=v->X.ρ v=none)->aC (V1 X) args bR.toList->(∃fn,P.funcs[f]?=some fn/\fn.body.isSome=true/\(fn.name== "runtime.NumGoroutine")=false)/\Calls P f bR X.w λe w'=>∃Y v,e=.returned v/\Y.w=w'/\Ext X Y/\VR Y r v/\aF Y mem' kC/\nv<=BU/\∀u L,Y.ρ u=some L->X.ρ u=some L\/(nv<=u/\u<BU)
def DR.mono{w:World}{F G:Nat->Nat->Prop}(h:∀b o,F b o->G b o){x:D}{v:Value}(hd:DR w F x v):DR w G x v:=by induction hd with|sc v h1=>exact .sc v h1|er v h1=>exact .er v h1|sl els a n cap sz b o g hn hcap hsz ha hF hc _ ih=>exact .sl els a n cap sz b o g hn hcap hsz ha (λi e j x h1 h2=>h _ _ (hF i e j x h1 h2)) hc ih
def eX.mono{w:World}{F G R S:Nat->Nat->Prop}(h:∀b o,F b o->G b o){els:List (List D)}{b o sz:Nat}(Tl:∀q,(∃v,w.cell? ⟨b,q,none⟩=some v)->R b q->S b q)(hl:eX w F R els b o sz):eX w G S els b o sz:=⟨hl.1,λi e j x h1 h2=>by obtain⟨hF,v,hv,hd⟩:=hl.2 i e j x h1 h2;exact⟨Tl _ ⟨v,hv⟩ hF,v,hv,hd.mono h⟩⟩
def Ii{w:World}{b o:Nat}(h:∃v,w.cell? ⟨b,o,none⟩=some v):b<w.heap.size:=by obtain⟨v,hv⟩:=h;exact World.block_lt_of_cell? w ⟨b,o,none⟩ hv
def Cx.inner(X:Cx):Cx:={w:=X.w,F:=X.F,ρ:=λ_=>none,old:=λb=>b<X.w.heap.size}
def Ij{X Y:Cx}{f:Nat}{v:Value}(h:VC X (.fG f []) v):VC Y (.fG f []) v:=by grind[E8,aC,VC]
section
variable{X:Cx}{m:List (Tr bq)}{t:Tr Unit}
def nL(h:aF X m t)(ks:List (Nat×Nat)){x y:AV}{v:Value}(hx:dA m x=some y)(hv:VC X x v):VC (X.nD m ks).inner y v:=by
 have hex:=rU h ks;have hsub:∀b o,X.F b o->(X.nD m ks).F b o:=λ_ _=>.inl;have data:∀{els a cap sz b o},v=.slice a els.length cap->els.length<=cap->(0<els.length->a=some ⟨b,o,none⟩)->eX X.w X.F X.F els b o sz->VC (X.nD m ks).inner (.d (.sl els)) v:=by rintro els a cap sz b o rfl h2 h3 h4;exact DR.gF (h4.ext hex) rfl h2 h3
 have J7:∀{els a cap sz b o}{R:Nat->Nat->Prop},v=.slice a els.length cap->els.length<=cap->(0<els.length->a=some ⟨b,o,none⟩)->eX X.w X.F R els b o sz->VC (X.nD m ks).inner (.own els .bG) v:=by rintro els a cap sz b o R rfl h2 h3 h4;exact⟨a,b,o,sz,cap,rfl,h2,h3,h4.mono hsub λq hq _=>Ii hq⟩
 cases x with
 |d x=>cases hx;exact DR.ext hex hv|own els ow=>cases ow with|full=>cases hx;obtain⟨a,b,o,sz,h1,h2,h3⟩:=hv;exact data h1 (bc _) h2 h3|cR ak tz=>cases hx;obtain⟨a,b,o,sz,cap,h1,h2,h3,h4,_⟩:=hv;exact data h1 h2 (λh=>h3 (by omega)) h4|bG=>cases hx;obtain⟨a,b,o,sz,cap,h1,h2,h3,h4⟩:=hv;exact J7 h1 h2 h3 h4
 |ref lv sl ak off len sz=>simp only[dA]at hx;cases he:dL m (.ref lv sl ak off len sz)with|none=>grind|some els=>rw[he]at hx;cases hx;obtain⟨a,cap,sz',b,o,h1,h2,h3,h4⟩:=o7 h he (.k9 hv);exact J7 h1 h2 h3 h4
 |fG f c=>cases c with|nil=>cases hx;exact Ij hv|cons=>cases hx
 |_=>cases hx
def AB(h:aF X m t){ks k:List (Nat×Nat)}{x y:AV}{v:Value}(hx:fo m x=some (y,k))(hv:VC X x v)(hk:∀p∈k,p∈ks):VC (X.nD m ks).inner y v:=by
 have arP:∀{x},(BO m x).map (λp=>(AV.d p.1,p.2))=some (y,k)->VC X x v->VC (X.nD m ks).inner y v:=by intro x hx hv;cases hd:BO m x with|none=>rw[hd]at hx;cases hx|some p=>rw[hd]at hx;injection hx with hx;injection hx with h1 h2;subst h1;exact TP h (ks:=ks) hd hv λq hq=>hk q (by rw[<-h2];exact hq)
 unfold fo at hx;split at hx;.cases hx;exact nL h ks rfl hv
 .cases hx;exact nL h ks rfl hv
 .exact arP hx hv
def xJ(h:aF X m t){ks:List (Nat×Nat)}:∀{xs ys:List AV}{k:List (Nat×Nat)}{vs:List Value},gh m xs=some (ys,k)->aC (VC X) xs vs->(∀p∈k,p∈ks)->aC (VC (X.nD m ks).inner) ys vs
 |[],ys,k,[],hx,_,_=>by cases hx;trivial|x::xs,ys,k,v::vs,hx,hv,hk=>by
  simp[gh]at hx;split at hx;.rename_i y k1 ys' k2 h1 h2;cases hx;exact⟨AB h h1 hv.1 λp hp=>hk p (by simp[hp]),xJ h h2 hv.2 λp hp=>hk p (by simp[hp])⟩
  grind|[],_,_,_::_,_,hv,_=>hv.elim|_::_,_,_,[],_,hv,_=>hv.elim
def Px(h:aF X m t){ks k:List (Nat×Nat)}{x y:AV}{v:Value}(hx:y9 m x=some (y,k))(hv:VR X x v)(hk:∀p∈k,p∈ks):V1 (X.nD m ks).inner y v:=by
 have one:∀{x:AV},(dA m x).map (λy=>(y,([]:List (Nat×Nat))))=some (y,k)->VC X x v->V1 (X.nD m ks).inner y v:=by intro x hx hv;cases hd:dA m x with|none=>grind|some y'=>rw[hd]at hx;cases hx;exact .k9 (nL h ks hd hv)
 cases x with
 |agg cs=>simp only[y9]at hx;cases hd:gh m cs with|none=>grind|some p=>rw[hd]at hx;injection hx with hx;injection hx with h1 h2;subst h1;obtain⟨vs,rfl,h3⟩:=hv;exact⟨vs,rfl,xJ h (k:=p.2) hd h3 λq hq=>hk q (by rw[<-h2];exact hq)⟩
 |fk cs=>simp[y9,dA]at hx|_=>simp only[y9]at hx;exact one hx hv
def J8(h:aF X m t){ks:List (Nat×Nat)}:∀{xs ys:List AV}{k:List (Nat×Nat)}{vs:List Value},sS m xs=some (ys,k)->aC (VR X) xs vs->(∀p∈k,p∈ks)->aC (V1 (X.nD m ks).inner) ys vs
 |[],ys,k,[],hx,_,_=>by cases hx;trivial|x::xs,ys,k,v::vs,hx,hv,hk=>by
  simp[sS]at hx;split at hx;.rename_i y k1 ys' k2 h1 h2;cases hx;exact⟨Px h h1 hv.1 λp hp=>hk p (by simp[hp]),J8 h h2 hv.2 λp hp=>hk p (by simp[hp])⟩
  grind|[],_,_,_::_,_,hv,_=>hv.elim|_::_,_,_,[],_,hv,_=>hv.elim
def aan(h:aF X m t){ks k:List (Nat×Nat)}{x y:AV}{v:Value}(hx:za m x=some (y,k))(hv:VR X x v)(hk:∀p∈k,p∈ks):V1 (X.nD m ks).inner y v:=by cases x with|agg cs=>exact Px h (x:=.agg cs) hx hv hk|fk cs=>simp[za,fo,BO]at hx|_=>simp only[za]at hx;exact .k9 (AB h hx hv hk)
def J9(h:aF X m t){ks:List (Nat×Nat)}:∀{xs ys:List AV}{k:List (Nat×Nat)}{vs:List Value},sU m xs=some (ys,k)->aC (VR X) xs vs->(∀p∈k,p∈ks)->aC (V1 (X.nD m ks).inner) ys vs
 |[],ys,k,[],hx,_,_=>by cases hx;trivial|x::xs,ys,k,v::vs,hx,hv,hk=>by
  simp[sU]at hx;split at hx;.rename_i y k1 ys' k2 h1 h2;cases hx;exact⟨aan h h1 hv.1 λp hp=>hk p (bj.2 (.inl hp)),J9 h h2 hv.2 λp hp=>hk p (bj.2 (.inr hp))⟩
  grind|[],_,_,_::_,_,hv,_=>hv.elim|_::_,_,_,[],_,hv,_=>hv.elim
def F2(h:aF X m t)(ks:List (Nat×Nat)):∀{xs ys:List AV}{vs:List Value},qv m xs=some ys->aC (VC X) xs vs->aC (VC (X.nD m ks).inner) ys vs
 |[],ys,[],hx,_=>by cases hx;trivial|x::xs,ys,v::vs,hx,hv=>by
  simp[qv]at hx;split at hx;.rename_i y ys' h1 h2;cases hx;exact⟨nL h ks h1 hv.1,F2 h ks h2 hv.2⟩
  grind|[],_,_::_,_,hv=>hv.elim|_::_,_,[],_,hv=>hv.elim
def T7(h:aF X m t)(ks:List (Nat×Nat)){x y:AV}{v:Value}(hx:sW m x=some y)(hv:VR X x v):V1 (X.nD m ks).inner y v:=by cases x with
 |agg cs=>simp only[sW]at hx;cases h1:qv m cs with|none=>grind|some z=>rw[h1]at hx;cases hx;obtain⟨vs,rfl,h3⟩:=hv;exact⟨vs,rfl,F2 h ks h1 h3⟩
 |fk cs=>simp[sW,dA]at hx|_=>simp only[sW]at hx;exact .k9 (nL h ks hx hv)
def F9(h:aF X m t)(ks:List (Nat×Nat)):∀{xs ys:List AV}{vs:List Value},rN m xs=some ys->aC (VR X) xs vs->aC (V1 (X.nD m ks).inner) ys vs
 |[],ys,[],hx,_=>by cases hx;trivial|x::xs,ys,v::vs,hx,hv=>by
  simp[rN]at hx;split at hx;.rename_i y ys' h1 h2;cases hx;exact⟨T7 h ks h1 hv.1,F9 h ks h2 hv.2⟩
  grind|[],_,_::_,_,hv=>hv.elim|_::_,_,[],_,hv=>hv.elim
def Ga(h:aF X m t):aF X.inner [.lf] .lf:=by
 refine⟨λlv sl e he=>?_,λv hv=>by simp at hv,λk k' v v' L L' _ _ _ hv _ _ _=>?_,h.nG,λ_ h=>h,λb hb=>h.low b (h.pX.gb b hb),h.pX.gk⟩;.unfold aH at he;grind[Tr.get?,oV,bq.ak,Cx.inner]
 .cases hv
end
structure T8(Z:Cx)(top:Nat)(cm:List (Tr bq))(els:List (List D))(len sz:Nat)(v:Value):Prop where row:∃L off a cap,v=.slice a len cap/\len<=cap/\els.length=len/\(∀e∈els,e.length=sz)/\(0<cap->(∃cy cU e,top<=cy/\(aH cm cy cU=some e/\e.fz=false)/\Z.ρ e.ak=some L)/\a=some ⟨L.b,L.o+off*sz,none⟩/\off+cap<=L.cap/\L.sz=sz/\0<L.cap/\Block Z L.b (L.o+L.cap*L.sz)/\(∀o,¬Z.F L.b o)/\∀i e j x,els[i]?=some e->e[j]?=some x->∃u,Z.w.cell? ⟨L.b,L.o+off*sz+i*sz+j,none⟩=some u/\DR Z.w Z.F x u)
section
variable{Z Y:Cx}{cm:List (Tr bq)}{ts:Tr Unit}
def CU(h:aF Z cm ts){top pk k lv sl ak:Nat}(hw:Y.w=Z.w)(hF:∀b o,Z.F b o->Y.F b o)(hρ:0<top->∀v L,Z.ρ v=some L->Y.ρ v=some L)(hfz:pk=0->∀cy cU e L,top<=cy->aH cm cy cU=some e->e.fz=false->Z.ρ e.ak=some L->0<L.cap->∀o,Y.F L.b o){x y:AV}{us:List (List (List D))}{v:Value}(hx:bE cm top pk k lv sl ak x=some (y,us))(hv:VC Z x v):(us=[]/\VC Y y v)\/∃els len sz,us=[els]/\y=.ref lv sl ak 0 len sz/\pk≠0/\T8 Z top cm els len sz v:=by
 have data:∀{els a cap sz b o},v=.slice a els.length cap->els.length<=cap->(0<els.length->a=some ⟨b,o,none⟩)->eX Z.w Z.F Z.F els b o sz->VC Y (.d (.sl els)) v:=by rintro els a cap sz b o rfl h2 h3 h4;refine DR.gF (b:=b) (o:=o) (sz:=sz) ?_ rfl h2 h3;rw[hw];exact h4.mono hF λq _ hq=>hF _ _ hq
 cases x with
 |d x=>injection hx with hx;injection hx with h1 h2;subst h1;refine .inl ⟨h2.symm,?_⟩;show DR Y.w Y.F x v;rw[hw];exact DR.mono hF hv|own els ow=>cases ow with
  |full=>
   simp[bE]at hx;obtain⟨a,b,o,sz,g1,g2,g3⟩:=hv;split at hx
   .rename_i hq;injection hx with hx;injection hx with h1 h2;subst h1;have hpk:pk≠0:=by intro e;subst e;simp at hq
    exact .inr ⟨[],0,pk/65536,h2.symm,rfl,hpk,⟨⟨0,0,0,0⟩,0,a,0,g1,bc _,rfl,λ_ h=>(by cases h),λh=>absurd h (by omega)⟩⟩
   .split at hx;.injection hx with hx;injection hx with h1 h2;subst h1;refine .inl ⟨h2.symm,a,b,o,sz,g1,g2,?_⟩;rw[hw];exact g3.mono hF λq _ hq=>hF _ _ hq
    grind|cR ak tz=>
   simp[bE]at hx;obtain⟨a,b,o,sz,cap,g1,g2,g3,g4,g5,g6⟩:=hv;split at hx
   .rename_i hk;injection hx with hx;injection hx with h1 h2;subst h1;have ht:0<top:=by
     have:=(Bool.and_eq_true_iff.1 hk).2;rcases Nat.eq_zero_or_pos top with e|e;.rw[e]at this;cases this
     .exact e
    refine .inl ⟨h2.symm,a,b,o,sz,cap,g1,g2,g3,?_,hρ ht _ _ g5,g6⟩;rw[hw];exact g4.mono hF λq _ hq=>hF _ _ hq
   grind|bG=>cases hx
 |ref cy cU gA off len sz=>simp[bE]at hx;cases hb:Nat.ble top cy with|false=>
   rw[hb]at hx;injection hx with hx;injection hx with h1 h2;subst h1;have ht:0<top:=by
    have:¬top<=cy:=λhle=>by rw[ml hle]at hb;cases hb
    omega
   obtain⟨L,a,cap,g1,g2⟩:=hv;exact .inl ⟨h2.symm,L,a,cap,hρ ht _ _ g1,g2⟩|true=>rw[hb]at hx;have hle:top<=cy:=fr hb;cases he:dL cm (.ref cy cU gA off len sz)with|none=>grind|some els=>rw[he]at hx;simp at hx;obtain⟨L',a,cap,hL',g1,rfl,g3,g4⟩:=hv;simp[dL]at he;cases hr:qJ cm cy cU gA with|none=>grind|some els'=>
     rw[hr]at he;simp only[ae]at he;split at he
     .cases he;obtain⟨L,hL,hE1,hE⟩:=CG h hr;rw[hL]at hL';injection hL' with hL';subst hL';have hlen:((els'.drop off).take len).length=len:=by grind
      have hsz:∀e∈(els'.drop off).take len,e.length=sz:=λf hf=>by rw[hE.1 f (pm (ls hf)),g1]
      split at hx
      .rename_i hpk;injection hx with hx;injection hx with h1 h2;subst h1;refine .inl ⟨h2.symm,?_⟩;have hpk:=beq_true.1 hpk;have hl:=(hE.region (S:=Y.F) λb o hq=>hq.elim (hF b o) λhq=>by obtain⟨e,M,q1,q2,q3,rfl,q5⟩:=lM hq;exact hfz hpk cy cU e M hle q1 q5 q2 q3 o).sub off len;refine DR.gF (b:=L.b) (o:=L.o+off*L.sz) (sz:=L.sz) ?_ hlen g3 λh0=>by rw[(g4 (by omega)).1,g1]
       rw[hw];exact hl.mono hF λq _ hq=>hq
      .rename_i hpk;have hpk:=beq_false.1 hpk;split at hx
       .split at hx
        .rename_i zh qA;injection hx with hx;injection hx with h1 h2;subst h1;obtain⟨L2,hL2,hE2,hg⟩:=nI h qA;have CJ:zh=els':=by have hr':=hr;unfold qJ at hr'<;>grind
         subst CJ;rw[hL]at hL2;cases hL2;refine .inr ⟨_,len,sz,h2.symm,rfl,hpk,⟨L,off,a,cap,rfl,g3,hlen,hsz,λhc=>?_⟩⟩;obtain⟨k1,k2⟩:=g4 hc;have hc0:0<L.cap:=by omega
         refine⟨⟨cy,cU,_,hle,⟨hg,rfl⟩,hL⟩,k1,k2,g1,hc0,(hE2.2.2.1 hc0).1,(hE2.2.2.1 hc0).2,λi e j x hi hj=>?_⟩;obtain⟨u,hu,hd⟩:=hE2.2.2.2 (off+i) e j x (e8 hi).1 hj<;>grind
        grind
       .split at hx;.cases hx
        .rename_i qA;injection hx with hx;injection hx with h1 h2;subst h1;refine .inl ⟨h2.symm,?_⟩;have hl:=(hE.region (S:=Y.F) λb o hq=>hq.elim (hF b o) λhq=>by exfalso;obtain⟨e,M,q1,q2,q3,rfl,q5⟩:=lM hq;have q1:aH cm cy cU=some e:=q1;unfold qJ at hr;unfold rowAt at qA;rw[q1]at hr qA;cases e with|row v els=>simp only at hr qA;rw[hr]at qA;cases qA|box v cs=>cases hr|mp v ks=>cases hr|MY v els=>cases q5).sub off len;refine DR.gF (b:=L.b) (o:=L.o+off*L.sz) (sz:=L.sz) ?_ hlen g3 λh0=>by rw[(g4 (by omega)).1,g1]
         rw[hw];exact hl.mono hF λq _ hq=>hq
     grind
 |ptr cy cU gA i off=>
  simp[bE]at hx;cases hb:Nat.ble top cy with|false=>
   rw[hb]at hx;injection hx with hx;injection hx with h1 h2;subst h1;have ht:0<top:=by
    have:¬top<=cy:=λhle=>by rw[ml hle]at hb;cases hb
    omega
   obtain⟨L,g1,g2⟩:=hv;exact .inl ⟨h2.symm,L,hρ ht _ _ g1,g2⟩|true=>rw[hb]at hx;cases hx
 |fG f c=>cases c with|nil=>injection hx with hx;injection hx with h1 h2;subst h1;exact .inl ⟨h2.symm,Ij hv⟩|cons=>cases hx
 |dx cy cU gA off n sz=>
  simp only[bE]at hx;cases hb:Nat.ble top cy with|false=>
   rw[hb]at hx;injection hx with hx;injection hx with h1 h2;subst h1;have ht:0<top:=by
    have:¬top<=cy:=λhle=>by rw[ml hle]at hb;cases hb
    omega
   obtain⟨L,cap,g1,g2⟩:=hv;exact .inl ⟨h2.symm,L,cap,hρ ht _ _ g1,g2⟩|true=>rw[hb]at hx;cases hx
 |_=>cases hx
end
structure Good(Z:Cx)(cm:List (Tr bq))(top pk:Nat)(Y:Cx):Prop where
 w:Y.w=Z.w
 F:∀b o,Z.F b o->Y.F b o
 ρ:0<top->∀v L,Z.ρ v=some L->Y.ρ v=some L
 fz:pk=0->∀cy cU e L,top<=cy->aH cm cy cU=some e->e.fz=false->Z.ρ e.ak=some L->0<L.cap->∀o,Y.F L.b o
def eD{α:Type}(Z:Cx)(cm:List (Tr bq))(top pk lv sl ak:Nat)(R:Cx->α->Prop)(y:α)(us:List (List (List D))):Prop:=(us=[]/\∀Y,Good Z cm top pk Y->R Y y)\/(∃els len sz v',us=[els]/\(pk≠0/\T8 Z top cm els len sz v')/\∀Y,Good Z cm top pk Y->VC Y (.ref lv sl ak 0 len sz) v'->R Y y)\/2<=us.length
def eD.map{α β:Type}{Z:Cx}{cm:List (Tr bq)}{top pk lv sl ak:Nat}{R:Cx->α->Prop}{S:Cx->β->Prop}{y:α}{z:β}{us:List (List (List D))}(h:eD Z cm top pk lv sl ak R y us)(Tl:∀Y,R Y y->S Y z):eD Z cm top pk lv sl ak S z us:=by grind[eD]
def eD.pair{α β γ:Type}{Z:Cx}{cm:List (Tr bq)}{top pk lv sl ak:Nat}{R:Cx->α->Prop}{S:Cx->β->Prop}{T:Cx->γ->Prop}{y:α}{z:β}{x:γ}{us vs:List (List (List D))}(h:eD Z cm top pk lv sl ak R y us)(k:eD Z cm top pk lv sl ak S z vs)(Tl:∀Y,R Y y->S Y z->T Y x):eD Z cm top pk lv sl ak T x (us++vs):=by grind[eD]
section
variable{Z:Cx}{cm:List (Tr bq)}{ts:Tr Unit}{top pk lv sl ak:Nat}
def Gb(h:aF Z cm ts){k:Nat}{x y:AV}{us:List (List (List D))}{v:Value}(hx:bE cm top pk k lv sl ak x=some (y,us))(hv:VC Z x v):eD Z cm top pk lv sl ak (λY y=>VC Y y v) y us:=by
 by_cases hu:us=[];.refine .inl ⟨hu,λY hY=>?_⟩;rcases CU h hY.w hY.F hY.ρ hY.fz hx hv with⟨_,h⟩|⟨_,_,_,h,_⟩<;>grind
 .rcases CU (Y:={Z with F:=λ_ _=>True}) h rfl (λ_ _ _=>trivial) (λ_ _ _ h=>h) (λ_ _ _ _ _ _ _ _ _ _ _=>trivial) hx hv with⟨h,_⟩|⟨els,len,sz,h1,rfl,h2,h3⟩<;>grind[bE,VC,eD]
def CV(h:aF Z cm ts):∀{k:Nat}{xs ys:List AV}{us:List (List (List D))}{vs:List Value},dM cm top pk lv sl ak k xs=some (ys,us)->aC (VC Z) xs vs->eD Z cm top pk lv sl ak (λY ys=>aC (VC Y) ys vs) ys us
 |k,[],ys,us,[],hx,_=>by grind[dM,VC,aC,eD]|k,x::xs,ys,us,v::vs,hx,hv=>by
  simp[dM]at hx;split at hx;.rename_i y u ys' us' h1 h2;cases hx;exact(Gb h h1 hv.1).pair (CV h h2 hv.2) λY a b=>⟨a,b⟩
  grind|_,[],_,_,_::_,_,hv=>hv.elim|_,_::_,_,_,[],_,hv=>hv.elim
def T9(h:aF Z cm ts){k:Nat}{x y:AV}{us:List (List (List D))}{v:Value}(hx:lH cm top pk lv sl ak k x=some (y,us))(hv:V1 Z x v):eD Z cm top pk lv sl ak (λY y=>V1 Y y v) y us:=by cases x with
 |agg cs=>simp only[lH]at hx;cases hd:dM cm top pk lv sl ak k cs with|none=>grind|some p=>rw[hd]at hx;cases hx;obtain⟨vs,rfl,h3⟩:=hv;exact(CV h (us:=p.2) hd h3).map λY h=>⟨vs,rfl,h⟩
 |fk cs=>cases hx|_=>simp only[lH]at hx;exact(Gb h hx hv).map λY h=>.k9 h
def Ka(h:aF Z cm ts):∀{k:Nat}{xs ys:List AV}{us:List (List (List D))}{vs:List Value},fT cm top pk lv sl ak k xs=some (ys,us)->aC (V1 Z) xs vs->eD Z cm top pk lv sl ak (λY ys=>aC (V1 Y) ys vs) ys us
 |k,[],ys,us,[],hx,_=>by grind[fT,V1,aC,eD]|k,x::xs,ys,us,v::vs,hx,hv=>by
  simp[fT]at hx;split at hx;.rename_i y u ys' us' h1 h2;cases hx;exact(T9 h h1 hv.1).pair (Ka h h2 hv.2) λY a b=>⟨a,b⟩
  grind|_,[],_,_,_::_,_,hv=>hv.elim|_,_::_,_,_,[],_,hv=>hv.elim
def Ik(h:aF Z cm ts){x y:AV}{us:List (List (List D))}{v:Value}(hx:gU cm top pk lv sl ak x=some (y,us))(hv:VR Z x v):eD Z cm top pk lv sl ak (λY y=>VR Y y v) y us:=by cases x with
 |fk cs=>simp only[gU]at hx;cases hd:fT cm top pk lv sl ak 1 cs with|none=>grind|some p=>rw[hd]at hx;cases hx;obtain⟨vs,rfl,h3⟩:=hv;exact(Ka h (us:=p.2) hd h3).map λY h=>⟨vs,rfl,h⟩
 |_=>simp only[gU]at hx;exact(T9 h hx hv).map λY h=>.vK h
def CX{Y:Cx}{m:List (Tr bq)}{t:Tr Unit}{els:List (List D)}{len sz off cap:Nat}{a:Option Addr}{L:Loc}(hm:aF Y m t)(hw:Y.w=Z.w)(hF:∀b o,Z.F b o->Y.F b o)(hb:∀b,Y.old b->Z.old b)(hfr:Y.ρ ak=none)(h1:len<=cap)(h2:els.length=len)(h3:∀e∈els,e.length=sz)(h4:0<cap->a=some ⟨L.b,L.o+off*sz,none⟩/\off+cap<=L.cap/\L.sz=sz/\0<L.cap/\Block Z L.b (L.o+L.cap*L.sz)/\(∀o,¬Z.F L.b o)/\∀i e j x,els[i]?=some e->e[j]?=some x->∃u,Z.w.cell? ⟨L.b,L.o+off*sz+i*sz+j,none⟩=some u/\DR Z.w Z.F x u)(hno:0<cap->(∀o,¬Y.F L.b o)/\∀k u M,Holds m t k u->Y.ρ u=some M->0<M.cap->M.b≠L.b):∃W:Cx,W.w=Y.w/\W.F=Y.F/\W.old=Y.old/\(∀u M,Y.ρ u=some M->W.ρ u=some M)/\(∀u M,W.ρ u=some M->Y.ρ u=some M\/u=ak)/\aF W (bJ m lv sl (some (.row ak els))) t/\VC W (.ref lv sl ak 0 len sz) (.slice a len cap):=by
 let L':Loc:=⟨L.b,L.o+off*sz,sz,cap⟩;refine⟨Y.name ak L',rfl,rfl,rfl,(eC hfr).loc,λu M hu=>?_,?_,L',a,cap,eS,rfl,rfl,h1,λhc=>⟨by rw[(h4 hc).1];simp[L'],by simp[L']⟩⟩;.grind[Cx.name,Holds,Block]
 .refine(gH hm hfr).add (e:=.row ak els) (L:=L') eS ⟨by rw[h2];exact h1,h3,λhc=>?_,λi e j x hi hj=>?_⟩ λk u M hk _ hu xj hc=>?_;.obtain⟨g1,g2,g3,g4,⟨g5,C,ce,g6,g7⟩,g8,_⟩:=h4 hc;refine⟨⟨λq=>g5 (hb _ q),C,ce,by show Y.w.heap[L.b]?=_;rw[hw];exact g6,?_⟩,(hno hc).1⟩;have:=d7 sz g2<;>grind
  .have hi':i<els.length:=(cb.1 hi).1;obtain⟨u,hu,hd⟩:=(h4 (by omega)).2.2.2.2.2.2 i e j x hi hj;refine⟨u,?_,?_⟩;.grind[Holds,Block,Cx.name]
   .show DR Y.w Y.F x u;rw[hw];exact hd.mono hF
  .obtain⟨M',kR,_⟩:=hm.dh hk<;>grind[Cx.name,bU,Holds,Block]
end
def nM(m:List (Tr bq))(k lv sl:Nat):aH (m.take k) lv sl=if lv<k then aH m lv sl else none:=by grind[aH]
section
variable{P:Program}{X:Cx}{nt:NT}{s:St}{a:Act}{o:Oper}{dst:Option Nat}{aP:Nat}
def CY{call:Go.bK.Call}(cG:cB P call)(hs:fI X nt s a)(hfr:X.ρ aP=none){f pk lv sl:Nat}{bR:Array Value}{aK:List AV}{ks:List (Nat×Nat)}{r val:AV}{cm:List (Tr bq)}{ts:Tr Unit}{n':Nat}{us:List (List (List D))}{u:List (Nat×Nat×Option bq)}{rd:List (Nat×Nat×Nat)}(hV:aC (V1 (X.nD s.mem ks).inner) aK bR.toList)(hc:call f aK [.lf] .lf 0=some (r,cm,ts,n'))(hi:gU cm 0 pk lv sl aP r=some (val,us))(hu:j9 lv sl aP us=some u)(hrun:(∃fn,P.funcs[f]?=some fn/\fn.body.isSome=true/\(fn.name== "runtime.NumGoroutine")=false)->(execOp a.eval o).run P X.w=.ok (.enter f bR) X.w):dF P X s a o dst aP (.bT {val,dn:=eW s.mem ks++u,cR:=[],rd}):=by
 intro K Q hK;have y7:=HY hs.mem ks;have hx1:=rU hs.mem ks;obtain⟨hfn,wq⟩:=cG f aK [.lf] .lf 0 r cm ts n' hc (X.nD s.mem ks).inner bR (Ga y7) (λ_ _=>rfl) hV;unfold Oper.wp;rw[hrun hfn];refine Calls.mono wq ?_;rintro e w'⟨Z,v,rfl,rfl,Il,hvZ,Rb,_,_⟩;have hblk:∀b,b<X.w.heap.size->Z.w.heap[b]?=X.w.heap[b]?:=λb hb=>Il.below.block b hb;have Ua:Z.old=λb=>b<X.w.heap.size:=Il.base;have hZF:∀b o,Z.F b o->(X.nD s.mem ks).F b o\/X.w.heap.size<=b:=λb o h=>(Il.new b o h).imp id λh=>Nat.le_of_not_lt h;have mk:∀(p:Option Nat),∃Y:Cx,Y.w=Z.w/\Y.old=X.old/\Y.ρ=X.ρ/\(∀b o,Y.F b o↔Z.F b o\/(X.w.heap.size<=b/\b<Z.w.heap.size/\some b≠p))/\Ext X Y/\aF Y (aT s.mem (eW s.mem ks)) s.aI:=by
  intro p;let Y:Cx:={w:=Z.w,F:=λb o=>Z.F b o\/(X.w.heap.size<=b/\b<Z.w.heap.size/\some b≠p),ρ:=X.ρ,old:=X.old};have hx:Ext (X.nD s.mem ks) Y:=by
   refine⟨rfl,Il.below.mono hs.mem.low,λb o h=>.inl (Il.TE b o h),λb o h=>?_,λ_ _ h=>h,λb o h=>?_⟩;.exact Il.keep b o h
   .rcases h with h|h;.exact(hZF b o h).imp id λh q=>mr _ (iv (hs.mem.low _ q) h)
    .exact .inr λq=>mr _ (iv (hs.mem.low _ q) h.1)
  refine⟨Y,rfl,rfl,rfl,λ_ _=>At,hx1.trans hx,y7.move hx (λk v L hk hv hc=>?_) (λk v L o hk hv hc h=>?_) λb o h=>?_⟩;.obtain⟨M,hM,h2⟩:=y7.dh hk;rw[hv]at hM;cases hM;exact hblk _ (h2 hc).1
  .obtain⟨M,hM,h2⟩:=y7.dh hk;rw[hv]at hM;cases hM;have:=(h2 hc).1;have this:L.b<X.w.heap.size:=this<;>grind
  .rcases h with h|h;.exact Rb.nG b o h
   grind
 rcases Ik Rb hi hvZ with⟨rfl,hb⟩|⟨els,len,sz,v',rfl,⟨hpk,⟨L,off,ad,cap,g3,g4,g5,g6,g7'⟩⟩,hb⟩|hlen
 .cases hu;obtain⟨Y,y1,y2,y3,y4,y5,y6⟩:=mk none;rw[<-y1];refine hK Y v y5 (hb Y ⟨y1,λb o h=>(y4 b o).2 (.inl h),λh=>absurd h (by omega),λ_ cy cU e L _ hg hz hL hc o=>?_⟩) ?_ ?_;.obtain⟨M,hM,h2⟩:=Rb.dh (.inl ⟨cy,cU,e,rfl,hg,rfl,hz⟩)<;>grind
  .rw[dq];exact y6
  .exact fL.JU y3
 .cases hu;subst g3;have g7:=λhc=>(g7' hc).2;obtain⟨Y,y1,y2,y3,y4,y5,y6⟩:=mk (some L.b);have hLb:0<cap->X.w.heap.size<=L.b:=λhc=>by have:=(g7 hc).2.2.2.2.1.1;rw[Ua]at this;exact Nat.le_of_not_lt this
  obtain⟨W,w1,w2,w3,w4,w5,w6,w7⟩:=CX (Z:=Z) (lv:=lv) (sl:=sl) (ak:=aP) y6 y1 (λb o h=>(y4 b o).2 (.inl h)) (by rw[y2,Ua];exact hs.mem.low) (by rw[y3];exact hfr) g4 g5 g6 g7 λhc=>⟨λo h=>by
    rcases(y4 _ _).1 h with h|h;.exact(g7 hc).2.2.2.2.2.1 o h
    .exact h.2.2 rfl,λk u M hk hM xj=>by obtain⟨M',kR,h2⟩:=y7.dh hk;rw[y3]at hM;have kR:X.ρ u=some M':=kR;rw[hM]at kR;injection kR with kR;subst kR;have:M.b<X.w.heap.size:=(h2 xj).1;have:=hLb hc;omega⟩;have hxW:Ext Y W:=⟨w3,by rw[w1];exact fq.refl _ _,λb o h=>by rw[w2];exact h,λb o _=>by rw[w1],w4,λb o h=>by rw[w2]at h;exact .inl h⟩;rw[<-y1,<-w1];refine hK W v (y5.trans hxW) (hb W ⟨w1.trans y1,λb o h=>by rw[w2];exact(y4 b o).2 (.inl h),λh=>absurd h (by omega),λh=>absurd h hpk⟩ w7) ?_ ?_;.show aF W (aT s.mem (eW s.mem ks++_)) s.aI;rw[kJ];exact w6
  .refine⟨bc _,λu M hM=>?_⟩<;>grind
 .match us,hlen with|_::_::_,_=>simp[j9]at hu
end
def aJ{α β:Type}{x:Option α}{f:α->β}{y:β}(h:x.map f=some y):∃z,x=some z/\f z=y:=by simp_all
def aV{α β:Type}{x:Option α}{f:α->Option β}{y:β}(h:x.bind f=some y):∃z,x=some z/\f z=some y:=by cases x with|none=>cases h|some z=>grind
def bQ{v:AV}{r:hU}(h:fD.pure v=some r):r=.bT {val:=v,dn:=[],cR:=[],rd:=[]}:=by grind[fD.pure]
def V1.Gc{X:Cx}{x:AV}{v:Value}(h:fU x=true)(hv:VR X x v):V1 X x v:=by cases x with|fk=>cases h|_=>exact hv
def aC.fU{X:Cx}:∀{xs:List AV}{vs:List Value},xs.all Go.bK.fU=true->aC (VR X) xs vs->aC (V1 X) xs vs|[],[],_,_=>trivial|x::xs,v::vs,h,hv=>by simp only[dv,al]at h;exact⟨V1.Gc h.1 hv.1,aC.fU h.2 hv.2⟩|[],_::_,_,hv=>hv.elim|_::_,[],_,hv=>hv.elim
def mG(m:List (Tr bq))(lv sl:Nat):aH (m++[.lf]) lv sl=aH m lv sl:=by unfold aH;grind[Tr.get?]
section
variable{P:Program}{X:Cx}{nt:NT}{s:St}{a:Act}{o:Oper}{dst:Option Nat}{aP:Nat}
def xK{call:Go.bK.Call}(cG:cB P call)(Im:aF X s.mem s.aI)(hfr:X.ρ aP=none)(xL:aP<s.nv)(hdom:∀v,s.nv<=v->X.ρ v=none){f pk lv sl:Nat}{args:List AV}{bR:Array Value}{r val:AV}{cm:List (Tr bq)}{ts:Tr Unit}{n':Nat}{us:List (List (List D))}{u:List (Nat×Nat×Option bq)}(hargs:aC (VR X) args bR.toList)(hnt:args.all fU=true)(hc:call f args (s.mem++[.lf]) s.aI s.nv=some (r,cm,ts,n'))(hi:gU cm s.mem.length pk lv sl aP r=some (val,us))(hu:j9 lv sl aP us=some u)(hrun:(∃fn,P.funcs[f]?=some fn/\fn.body.isSome=true/\(fn.name== "runtime.NumGoroutine")=false)->(execOp a.eval o).run P X.w=.ok (.enter f bR) X.w):dF P X s a o dst aP (.all val (aT (cm.take s.mem.length) u) ts n' [] []):=by
 intro K Q hK;have hm0:aF X (s.mem++[.lf]) s.aI:=Im.congr (λlv sl=>mG _ _ _) λ_=>rfl;obtain⟨hfn,wq⟩:=cG f args (s.mem++[.lf]) s.aI s.nv r cm ts n' hc X bR hm0 hdom (aC.fU hnt hargs);unfold Oper.wp;rw[hrun hfn];refine Calls.mono wq ?_;rintro e w'⟨Z,v,rfl,rfl,Il,hvZ,Rb,hn,hdZ⟩;have ajA:Z.ρ aP=none:=by cases hz:Z.ρ aP with|none=>rfl|some L=>grind
 have CF:aF Z (cm.take s.mem.length) ts:=Rb.less (λlv sl e he=>by
  rw[nM]at he;split at he;.exact he
  .cases he) λ_ h=>h;have Py:∀{k:Nat×Nat×Nat}{v:Nat},Holds (cm.take s.mem.length) ts k v->Holds cm ts k v/\∀cy cU,s.mem.length<=cy->k≠bU cy cU:=by
  rintro k v(⟨cy,cU,e',rfl,he',nh⟩|⟨rfl,he'⟩)
  .rw[nM]at he';split at he';.refine⟨.inl ⟨cy,cU,e',rfl,he',nh⟩,λazx azy hle hq=>?_⟩;have:=(tI hq).1<;>omega
   grind
  .exact⟨.inr ⟨rfl,he'⟩,λ_ _ _ hq=>dW hq.symm⟩
 let G:Option Nat->Nat->Nat->Prop:=λp b _=>some b≠p/\∃cy cU e L,s.mem.length<=cy/\aH cm cy cU=some e/\e.fz=false/\Z.ρ e.ak=some L/\0<L.cap/\L.b=b;have mk:∀p,Ext Z (Z.more (G p))/\aF (Z.more (G p)) (cm.take s.mem.length) ts:=by
  intro p;have hin:∀b o,G p b o->¬Z.old b/\b<Z.w.heap.size:=by rintro b o⟨_,cy,cU,e,L,_,hg,hz,hL,hc,rfl⟩;obtain⟨M,hM,h2⟩:=Rb.dh (.inl ⟨cy,cU,e,rfl,hg,rfl,hz⟩)<;>grind
  refine⟨Ext.more λb o h=>(hin b o h).1,CF.more hin ?_⟩;rintro k v M o hk hv xj⟨_,cy,cU,e,L,hle,hg,hz,hL,hc,hb⟩;obtain⟨h1,h2⟩:=Py hk;exact Rb.apart _ _ _ _ _ _ h1 (.inl ⟨cy,cU,e,rfl,hg,rfl,hz⟩) (h2 cy cU hle) hv hL xj hc hb.symm
 rcases Ik Rb hi hvZ with⟨rfl,hb⟩|⟨els,len,sz,v',rfl,⟨hpk,⟨L,off,ad,cap,g3,g4,g5,g6,g7'⟩⟩,hb⟩|hlen
 .cases hu;obtain⟨y5,y6⟩:=mk none;refine hK (Z.more (G none)) v (Il.trans y5) (hb (Z.more (G none)) ⟨rfl,λb o h=>.inl h,λ_ _ _ h=>h,λ_ cy cU e L hle hg hz hL hc o=>.inr ⟨by simp,cy,cU,e,L,hle,hg,hz,hL,hc,rfl⟩⟩) y6 ⟨hn,λu L hL=>?_⟩;rcases hdZ u L hL with h|h;.grind
  .exact .inr (.inr h)
 .cases hu;subst g3;have g7:=λhc=>(g7' hc).2;obtain⟨y5,y6⟩:=mk (some L.b);obtain⟨W,w1,w2,w3,w4,w5,w6,w7⟩:=CX (Z:=Z) (Y:=Z.more (G (some L.b))) (lv:=lv) (sl:=sl) (ak:=aP) y6 rfl (λb o h=>.inl h) (λ_ h=>h) ajA g4 g5 g6 g7 λhc=>⟨λo h=>by
    rcases h with h|h;.exact(g7 hc).2.2.2.2.2.1 o h
    .exact h.1 rfl,λk u M hk hM xj=>by obtain⟨h1,h2⟩:=Py hk;obtain⟨cy,cU,e,g0,g1,g2⟩:=(g7' hc).1;exact Rb.apart _ _ _ _ _ _ h1 (.inl ⟨cy,cU,e,rfl,g1.1,rfl,g1.2⟩) (h2 cy cU g0) hM g2 xj (g7 hc).2.2.2.1⟩;have hxW:Ext (Z.more (G (some L.b))) W:=⟨w3,by rw[w1];exact fq.refl _ _,λb o h=>by rw[w2];exact h,λb o _=>by rw[w1],w4,λb o h=>by rw[w2]at h;exact .inl h⟩;rw[show Z.w=W.w from w1.symm];refine hK W v ((Il.trans y5).trans hxW) (hb W ⟨w1,λb o h=>by rw[w2];exact .inl h,λ_ u M hM=>w4 u M hM,λh=>absurd h hpk⟩ w7) w6 ⟨hn,λu M hM=>?_⟩;rcases w5 u M hM with h|h
  .rcases hdZ u M h with h|h;.exact .inl h
   .exact .inr (.inr h)
  omega
 .match us,hlen with|_::_::_,_=>simp[j9]at hu
def Kb{call:Go.bK.Call}(cG:cB P call)(hs:fI X nt s a)(hfr:X.ρ aP=none)(xL:aP<s.nv)(hdom:∀v,s.nv<=v->X.ρ v=none){f pk lv sl:Nat}{args:List AV}{bR:Array Value}{r val:AV}{cm:List (Tr bq)}{ts:Tr Unit}{n':Nat}{us:List (List (List D))}{u:List (Nat×Nat×Option bq)}(hargs:aC (VR X) args bR.toList)(hnt:args.all fU=true)(hc:call f args (s.mem++[.lf]) s.aI s.nv=some (r,cm,ts,n'))(hi:gU cm s.mem.length pk lv sl aP r=some (val,us))(hu:j9 lv sl aP us=some u)(hrun:(∃fn,P.funcs[f]?=some fn/\fn.body.isSome=true/\(fn.name== "runtime.NumGoroutine")=false)->(execOp a.eval o).run P X.w=.ok (.enter f bR) X.w):dF P X s a o dst aP (.all val (aT (cm.take s.mem.length) u) ts n' [] []):=xK cG hs.mem hfr xL hdom hargs hnt hc hi hu hrun
def Rc{call:Go.bK.Call}(cG:cB P call)(hs:fI X nt s a)(hdom:∀v,s.nv<=v->X.ρ v=none){f:Nat}{args:List AV}{bR:Array Value}{r:hU}(hargs:aC (VR X) args bR.toList)(hr:rO call s f args=some r)(hrun:(∃fn,P.funcs[f]?=some fn/\fn.body.isSome=true/\(fn.name== "runtime.NumGoroutine")=false)->(execOp a.eval o).run P X.w=.ok (.enter f bR) X.w):dF P X s a o dst aP r:=by
 unfold rO at hr;split at hr;.cases hr
 .rename_i hnt;split at hr;.cases hr
  .rename_i r' cm ts n' hc;cases hr;intro K Q hK;have hm0:aF X (s.mem++[.lf]) s.aI:=hs.mem.congr (λlv sl=>mG _ _ _) λ_=>rfl;obtain⟨hfn,wq⟩:=cG f args (s.mem++[.lf]) s.aI s.nv r' cm ts n' hc X bR hm0 hdom (aC.fU hnt hargs);unfold Oper.wp;rw[hrun hfn];refine Calls.mono wq ?_;rintro e w'⟨Z,v,rfl,rfl,Il,hvZ,Rb,hn,hdZ⟩;exact hK Z v Il hvZ Rb ⟨hn,λu L hL=>(hdZ u L hL).imp id .inr⟩
def Re{call:Go.bK.Call}(cG:cB P call)(hs:fI X nt s a)(hfr:X.ρ aP=none){f:Nat}{args:List AV}{bR:Array Value}{r:hU}(hargs:aC (VR X) args bR.toList)(hr:oT call s aP f args=some r)(hrun:(∃fn,P.funcs[f]?=some fn/\fn.body.isSome=true/\(fn.name== "runtime.NumGoroutine")=false)->(execOp a.eval o).run P X.w=.ok (.enter f bR) X.w):dF P X s a o dst aP r:=by
 unfold oT at hr;split at hr;.cases hr
 .rename_i aK ks hl;split at hr;.cases hr
  .rename_i r' cm ts n' hc;split at hr;.rename_i v hi;have hV:=J9 hs.mem (ks:=ks) hl hargs λp hp=>hp;have:=CY (dst:=dst) cG hs hfr (pk:=0) (lv:=0) (sl:=0) (rd:=args.flatMap fH) hV hc hi (u:=[]) rfl hrun<;>grind
   grind
def Cx.all(X:Cx):Cx:={w:=X.w,F:=λb _=>b<X.w.heap.size,ρ:=λ_=>none,old:=λb=>b<X.w.heap.size}
def Rf{call:Go.bK.Call}(cG:cB P call)(hs:fI X nt s a)(hfr:X.ρ aP=none){f:Nat}{args:List AV}{bR:Array Value}{r:hU}(hargs:aC (VR X) args bR.toList)(hr:oU call s aP f args=some r)(hrun:(∃fn,P.funcs[f]?=some fn/\fn.body.isSome=true/\(fn.name== "runtime.NumGoroutine")=false)->(execOp a.eval o).run P X.w=.ok (.enter f bR) X.w):dF P X s a o dst aP r:=by
 unfold oU at hr;split at hr;.cases hr
 .rename_i aK hl;split at hr;.cases hr
  .rename_i r' cm ts n' hc;split at hr;.rename_i v hi;cases hr;have hV:=F9 hs.mem [] hl hargs;have:=CY (dst:=dst) cG hs hfr (pk:=0) (lv:=0) (sl:=0) (rd:=args.flatMap fH) hV hc hi (ks:=[]) (u:=[]) rfl hrun;exact this
   grind
def aao(X:Cx)(hl:Low X):aF X.all [.lf] .lf:=by
 refine⟨λlv sl e he=>?_,λv hv=>by simp at hv,λk k' v v' L L' _ _ _ hv _ _ _=>?_,λ_ _ h=>h,λ_ h=>h,λb hb=>hl.lt b (hl.gb b hb),hl.gk⟩;.unfold aH at he;grind[Tr.get?,oV,bq.ak,Cx.all]
 .cases hv
def Kc{m:List (Tr bq)}{t:Tr Unit}(h:aF X m t){x:AV}{y:D}{v:Value}(hx:jh m x=some y)(hv:VC X x v):DR X.w X.all.F y v:=by
 have hsub:∀b o,X.F b o->X.all.F b o:=λb o hb=>h.nG b o hb;have J7:∀{els a cap sz b o}{R:Nat->Nat->Prop},v=.slice a els.length cap->els.length<=cap->(0<els.length->a=some ⟨b,o,none⟩)->eX X.w X.F R els b o sz->DR X.w X.all.F (.sl els) v:=by rintro els a cap sz b o R rfl h2 h3 h4;exact DR.gF (h4.mono hsub λq hq _=>Ii hq) rfl h2 h3
 cases x with
 |d x=>cases hx;exact DR.mono hsub hv|own els ow=>cases hx;cases ow with|full=>obtain⟨a,b,o,sz,h1,h2,h3⟩:=hv<;>grind|cR ak tz=>obtain⟨a,b,o,sz,cap,h1,h2,h3,h4,_⟩:=hv<;>grind|bG=>obtain⟨a,b,o,sz,cap,h1,h2,h3,h4⟩:=hv<;>grind
 |ref lv sl ak off len sz=>simp[jh]at hx;cases he:dL m (.ref lv sl ak off len sz)with|none=>grind|some els=>obtain⟨a,cap,sz',b,o,h1,h2,h3,h4⟩:=o7 h he (.k9 hv)<;>grind
 |_=>cases hx
def zi{α:Type}{sz:Nat}:∀{n:Nat}{l:List α},l.length=n*sz->(chunk sz n l).length=n/\(∀e∈chunk sz n l,e.length=sz)/\∀(i j:Nat)e x,(chunk sz n l)[i]?=some e->e[j]?=some x->j<sz/\i<n/\l[i*sz+j]?=some x
 |0,l,h=>⟨rfl,λe he=>(by cases he),λi j e x h1 _=>by simp[chunk]at h1⟩|n+1,l,h=>by
  have hl:(l.drop sz).length=n*sz:=by rw[lw,h,yk];omega
  obtain⟨h1,h2,h3⟩:=zi (sz:=sz) hl;have ht:(l.take sz).length=sz:=by rw[ft,h,yk];omega
  refine⟨by simp[chunk,h1],λe he=>?_,λi j e x he hx=>?_⟩
  .simp[chunk,dj]at he;rcases he with rfl|he;.exact ht
   .exact h2 e he
  .cases i with|zero=>
    cases he;have hj:j<sz:=by have:=(cb.1 hx).1;omega
    rw[fa,ba hj]at hx;exact⟨hj,by omega,by rw[yi,jn];exact hx⟩|succ i=>obtain⟨g1,g2,g3⟩:=h3 i j e x he hx;refine⟨g1,by omega,?_⟩;simp at g3;rw[yk,show i*sz+sz+j=sz+(i*sz+j)by omega];exact g3
def zj{f:AV->Option D}:∀{xs:List AV}{ys:List D},kQ f xs=some ys->ys.length=xs.length/\∀(k:Nat)(y:D),ys[k]?=some y->∃a,xs[k]?=some a/\f a=some y
 |[],ys,h=>by simp only[kQ]at h;injection h with h;subst h;exact⟨rfl,λk y hk=>by simp at hk⟩|a::xs,ys,h=>by
  simp only[kQ]at h;split at h;.rename_i z zs h1 h2;injection h with h;subst h;obtain⟨g1,g2⟩:=zj h2;refine⟨by simp[g1],λk y hk=>?_⟩;cases k with|zero=>simp only[List.getElem?_cons_zero,dT]at hk;subst hk;exact⟨a,rfl,h1⟩|succ k=>simpa using g2 k y (by simpa using hk)
  .cases h
def xM{m:List (Tr bq)}{t:Tr Unit}(h:aF X m t):∀(k:Nat){x:AV}{y:D}{v:Value},lI m k x=some y->VC X x v->DR X.w X.all.F y v
 |0,_,_,_,hx,hv=>Kc h hx hv|k+1,x,y,v,hx,hv=>by
  unfold lI at hx;split at hx
  .rename_i lv sl ak off n sz;split at hx
   .rename_i cs hb;split at hx
    .rename_i hoff;obtain⟨ds,hd,rfl⟩:=aJ hx;obtain⟨L,aab,hL,rfl,hcap,hn,_⟩:=hv;obtain⟨L',hL',hE⟩:=h.fE lv sl _ (qP hb);have hL':X.ρ ak=some L':=hL';rw[hL]at hL';injection hL' with hL';subst hL';obtain⟨_,hblk,hno,hcell⟩:=hE;obtain⟨hdl,cell⟩:=zj hd;have hdl:ds.length=n*sz:=by rw[hdl,ft,lw];omega
     obtain⟨c1,c2,c3⟩:=zi hdl;refine DR.gF (b:=L.b) (o:=L.o+off) (sz:=sz) ⟨c2,λi e j x h1 h2=>?_⟩ c1 hcap λ_=>rfl;obtain⟨g1,g2,g3⟩:=c3 i j e x h1 h2;refine⟨hblk.lt,?_⟩;obtain⟨a,ha,hca⟩:=cell _ _ g3;rw[fa]at ha;split at ha;.rw[mn]at ha;obtain⟨u,hu,hvc⟩:=hcell _ _ ha;refine⟨u,?_,xM h k hca hvc⟩;rw[show L.o+off+i*sz+j=L.o+(off+(i*sz+j))by omega];exact hu
     .cases ha
    .cases hx
   .cases hx
  .exact Kc h hx hv
def Gd{m:List (Tr bq)}{t:Tr Unit}(h:aF X m t){k:Nat}:∀{xs:List AV}{ys:List D}{vs:List Value},kQ (lI m k) xs=some ys->aC (VC X) xs vs->aC (DR X.w X.all.F) ys vs
 |[],ys,[],hx,_=>by simp only[kQ]at hx;injection hx with hx;subst hx;trivial|x::xs,ys,v::vs,hx,hv=>by
  simp only[kQ]at hx;split at hx;.rename_i y ys' h1 h2;injection hx with hx;subst hx;exact⟨xM h k h1 hv.1,Gd h h2 hv.2⟩
  .cases hx|[],_,_::_,_,hv=>hv.elim|_::_,_,[],_,hv=>hv.elim
def aap{m:List (Tr bq)}{t:Tr Unit}(h:aF X m t){x y:AV}{v:Value}(hx:kz m x=some y)(hv:VR X x v):V1 X.all y v:=by
 have one:∀{x:AV},(lI m 2 x).map AV.d=some y->VC X x v->V1 X.all y v:=by intro x hx hv;obtain⟨d,hd,rfl⟩:=aJ hx;exact .k9 (xM h 2 hd hv)
 cases x with
 |agg cs=>obtain⟨ds,hd,rfl⟩:=aJ hx;obtain⟨vs,rfl,h3⟩:=hv;exact⟨vs,rfl,(Gd h hd h3).aag (X:=X.all)⟩|fG f c=>cases c with|nil=>simp only[kz]at hx;injection hx with hx;subst hx;exact .k9 (Ij hv)|cons=>simp[kz,lI,jh]at hx
 |fk cs=>simp[kz,lI,jh]at hx|eZ e off=>
  simp only[kz]at hx;injection hx with hx;subst hx;obtain⟨b,o,rfl,hc⟩:=hv;refine⟨b,o,rfl,λj x hj=>?_⟩;obtain⟨hF,u,hu,hd⟩:=hc j x hj;refine⟨.inl ?_,u,hu,DR.mono (λb o hb=>h.nG b o hb) hd⟩;rcases hF with hF|hF;.exact h.nG _ _ hF
  .exact h.low _ hF|ptr lv sl ak i off=>
  simp only[kz]at hx;split at hx;.rename_i cs hb hi;obtain⟨ds,hd,rfl⟩:=aJ hx;have hi:=am hi;subst hi;obtain⟨L,hL,rfl⟩:=hv;obtain⟨L',hL',hE⟩:=h.fE lv sl _ (qP hb);have hL':X.ρ ak=some L':=hL';rw[hL]at hL';injection hL' with hL';subst hL';obtain⟨_,hblk,hno,hcell⟩:=hE;obtain⟨_,cell⟩:=zj hd;refine⟨L.b,L.o,by rw[yi,fg],λj x hj=>⟨.inl hblk.lt,?_⟩⟩;obtain⟨a,ha,hca⟩:=cell _ _ hj;obtain⟨u,hu,hvc⟩:=hcell _ _ ha;exact⟨u,hu,xM h 2 hca hvc⟩
  .cases hx|_=>simp only[kz]at hx;exact one hx hv
def Kd{m:List (Tr bq)}{t:Tr Unit}(h:aF X m t):∀{xs ys:List AV}{vs:List Value},xl m xs=some ys->aC (VR X) xs vs->aC (V1 X.all) ys vs
 |[],ys,[],hx,_=>by cases hx;trivial|x::xs,ys,v::vs,hx,hv=>by
  simp[xl]at hx;split at hx;.rename_i y ys' h1 h2;cases hx;exact⟨aap h h1 hv.1,Kd h h2 hv.2⟩
  grind|[],_,_::_,_,hv=>hv.elim|_::_,_,[],_,hv=>hv.elim
def CZ{A B:Cx}{x:AV}{v:Value}(h:Cw x=true)(hv:VC A x v):VC B x v:=by
 unfold Cw at h;split at h;.cases hv with|sc v h1=>exact DR.sc v h1
 .cases hv with|sl els a n cap sz b o g hn hcap hsz ha hF hc hr=>exact DR.sl [] a n cap sz b o g hn hcap (λ_ h=>by cases h) ha (λ_ _ _ _ h=>by cases h) (λ_ _ _ _ h=>by cases h) (λ_ _ _ _ h=>by cases h)
 grind
def AD{A B:Cx}:∀{xs:List AV}{vs:List Value},xs.all Cw=true->aC (VC A) xs vs->aC (VC B) xs vs|[],[],_,_=>trivial|x::xs,v::vs,h,hv=>by rw[dv,al]at h;exact⟨CZ h.1 hv.1,AD h.2 hv.2⟩|[],_::_,_,hv=>hv.elim|_::_,[],_,hv=>hv.elim
def wu{A B:Cx}{x:AV}{v:Value}(h:FJ x=true)(hv:V1 A x v):V1 B x v:=by cases x with|agg cs=>obtain⟨vs,rfl,h3⟩:=hv;exact⟨vs,rfl,AD h h3⟩|d x=>exact .k9 (CZ (A:=A) h hv)|_=>cases h
def AE{A B:Cx}:∀{xs:List AV}{vs:List Value},xs.all FJ=true->aC (V1 A) xs vs->aC (V1 B) xs vs|[],[],_,_=>trivial|x::xs,v::vs,h,hv=>by rw[dv,al]at h;exact⟨wu h.1 hv.1,AE h.2 hv.2⟩|[],_::_,_,hv=>hv.elim|_::_,[],_,hv=>hv.elim
def Nr{A B:Cx}{x:AV}{v:Value}(h:TB x=true)(hv:VR A x v):VR B x v:=by cases x with|fk cs=>obtain⟨vs,rfl,h3⟩:=hv;exact⟨vs,rfl,AE h h3⟩|agg cs=>exact .vK (wu (A:=A) h hv)|d x=>exact .vK (wu (A:=A) h hv)|_=>cases h
def Ge{call:Go.bK.Call}(cG:cB P call)(hs:fI X nt s a){f:Nat}{args:List AV}{bR:Array Value}{r:hU}(hargs:aC (VR X) args bR.toList)(hr:lJ call s f args=some r)(hrun:(∃fn,P.funcs[f]?=some fn/\fn.body.isSome=true/\(fn.name== "runtime.NumGoroutine")=false)->(execOp a.eval o).run P X.w=.ok (.enter f bR) X.w):dF P X s a o dst aP r:=by
 unfold lJ at hr;split at hr;.cases hr
 .rename_i aK hl;split at hr;.cases hr
  .rename_i r' cm ts n' hc;split at hr;case h_2=>cases hr
   rename_i v hi;split at hr;case h_2=>cases hr
   rename_i hfl;cases hr;intro K Q hK;have hV:=Kd hs.mem hl hargs;obtain⟨hfn,wq⟩:=cG f aK [.lf] .lf 0 r' cm ts n' hc X.all bR (aao X hs.mem.pX) (λ_ _=>rfl) hV;unfold Oper.wp;rw[hrun hfn];refine Calls.mono wq ?_;rintro e w'⟨Z,v',rfl,rfl,Il,hvZ,Rb,_,_⟩;have hblk:∀b,b<X.w.heap.size->Z.w.heap[b]?=X.w.heap[b]?:=λb hb=>Il.below.block b hb;let Y:Cx:={w:=Z.w,F:=X.F,ρ:=X.ρ,old:=X.old};have hx:Ext X Y:=⟨rfl,Il.below.mono hs.mem.low,λ_ _ h=>h,λb o h=>Il.keep b o (hs.mem.nG b o h),λ_ _ h=>h,λ_ _ h=>.inl h⟩;have hm:aF Y s.mem s.aI:=hs.mem.move hx (λk v L hk hv hc=>by obtain⟨M,hM,h2⟩:=hs.mem.dh hk;rw[hv]at hM;injection hM with hM;subst hM;exact hblk _ (h2 hc).1) (λ_ _ _ _ _ _ _ h=>h) λb o h=>iv (hs.mem.nG b o h) Il.below.size;have hvr:VR Y v v':=by
    rcases Ik Rb hi hvZ with⟨_,hb⟩|⟨_,_,_,_,h,_⟩|h;.exact Nr hfl (hb {Z with F:=λ_ _=>True} ⟨rfl,λ_ _ _=>trivial,λh=>absurd h (by omega),λ_ _ _ _ _ _ _ _ _ _ _=>trivial⟩)
    .cases h
    .simp at h
   refine hK Y v' hx hvr ?_ (fL.JU rfl);exact hm
def zk{call:Go.bK.Call}(cG:cB P call)(hs:fI X nt s a)(hfr:X.ρ aP=none)(xL:aP<s.nv)(hdom:∀v,s.nv<=v->X.ρ v=none){shared:Bool}{f pk lv sl:Nat}{args:List AV}{bR:Array Value}{r:hU}(hargs:aC (VR X) args bR.toList)(hr:gV call shared pk s lv sl aP f args=some r)(hrun:(∃fn,P.funcs[f]?=some fn/\fn.body.isSome=true/\(fn.name== "runtime.NumGoroutine")=false)->(execOp a.eval o).run P X.w=.ok (.enter f bR) X.w):dF P X s a o dst aP r:=by
 unfold gV at hr;split at hr
 .split at hr;.cases hr
  .rename_i aK ks hl;split at hr;.cases hr
   .rename_i r' cm ts n' hc;split at hr;.cases hr
    .rename_i v us hi;split at hr;.cases hr
     .rename_i u hu;cases hr;exact CY cG hs hfr (J8 hs.mem (ks:=ks) hl hargs λp hp=>hp) hc hi hu hrun
 .split at hr;.cases hr
  .rename_i hnt;split at hr;.cases hr
   .rename_i r' cm ts n' hc;split at hr;.cases hr
    .rename_i v us hi;split at hr;.cases hr
     .rename_i u hu;cases hr;exact Kb cG hs hfr xL hdom hargs hnt hc hi hu hrun
end
def tV(f:Nat×Nat->Option bq):∀(kp:List (Nat×Nat))(m:List (Tr bq))(lv sl:Nat),aH (aT m (kp.map λk=>(k.1,k.2,f k))) lv sl=if(lv,sl)∈kp/\lv<m.length then f (lv,sl)else aH m lv sl
 |[],m,lv,sl=>by simp[aT]|(a,b)::r,m,lv,sl=>by
  simp only[f1,aT];rw[tV f r,cO];have hl:(bJ m a b (f (a,b))).length=m.length:=by simp[bJ]
  rw[hl];by_cases hr:(lv,sl)∈r/\lv<m.length;.rw[ba hr,ba ⟨ci _ hr.1,hr.2⟩]
  .rw[be hr];by_cases hab:a=lv/\b=sl/\a<m.length;.obtain⟨rfl,rfl,h3⟩:=hab;rw[ba ⟨rfl,rfl,h3⟩,ba ⟨ca ..,h3⟩]
   .rw[be hab,be];rintro⟨h1,h2⟩;rcases dj.1 h1 with h1|h1;.injection h1 with h1 h3;exact hab ⟨h1.symm,h3.symm,by omega⟩
    .exact hr ⟨h1,h2⟩
def C0{m:List (Tr bq)}{lv sl:Nat}(h:m.length<=lv):aH m lv sl=none:=by unfold aH;rw[d8 h];rfl
def p7(m:List (Tr bq))(kp:List (Nat×Nat))(lv sl:Nat):aH (j8 m kp) lv sl=if(lv,sl)∈kp then none else aH m lv sl:=by
 unfold j8;rw[tV (λ_=>none)];by_cases hk:(lv,sl)∈kp
 .rw[ba hk];by_cases hl:lv<m.length;.rw[ba ⟨hk,hl⟩]
  .rw[be λh=>hl h.2,C0 (by omega)]
 .rw[be λh=>hk h.1,be hk]
def rV:∀(u:List (Nat×Nat×Option bq))(m:List (Tr bq)),(aT m u).length=m.length|[],_=>rfl|(lv,sl,e)::r,m=>(rV r _).trans (by simp[bJ])
def tW(m:List (Tr bq))(kp:List (Nat×Nat)):(j8 m kp).length=m.length:=rV _ _
def C1(old m:List (Tr bq)):(fit old m).length=old.length:=by unfold fit;rw[ft,bb,kb];omega
def Ns(old m:List (Tr bq))(lv sl:Nat):aH (fit old m) lv sl=if lv<old.length then aH m lv sl else none:=by
 unfold fit aH;rw[fa];by_cases hl:lv<old.length
 .rw[ba hl,ba hl,ub];by_cases hm:lv<m.length;.rw[ba hm]
  .rw[be hm,d8 (l:=m) (by omega),m7];split;.simp
   .rfl
 .rw[be hl,be hl];rfl
def tX(old m:List (Tr bq))(kp:List (Nat×Nat))(lv sl:Nat):aH (back old m kp) lv sl=if kp=[]then aH m lv sl else if(lv,sl)∈kp then aH old lv sl else if lv<old.length then aH m lv sl else none:=by cases kp with|nil=>simp[back]|cons k r=>
  rw[be (by simp)];unfold back;rw[tV (λk=>aH old k.1 k.2),C1,Ns];by_cases hk:(lv,sl)∈k::r
  .rw[ba hk];by_cases hl:lv<old.length;.rw[ba ⟨hk,hl⟩]
   .rw[be λh=>hl h.2,be hl,C0 (by omega)]
  .rw[be λh=>hk h.1,be hk]
def nN{old m:List (Tr bq)}{kp:List (Nat×Nat)}(h:kp≠[]):(back old m kp).length=old.length:=by cases kp with|nil=>exact absurd rfl h|cons k r=>unfold back;rw[rV,C1]
def Gf{old m:List (Tr bq)}{kp kr:List (Nat×Nat)}(hkr:∀k∈kr,k∉kp->aH m k.1 k.2=aH old k.1 k.2){lv sl:Nat}{e:bq}(h:aH (back old m (kp++kr)) lv sl=some e):((lv,sl)∈kp/\aH old lv sl=some e)\/((lv,sl)∉kp/\aH m lv sl=some e):=by
 rw[tX]at h;split at h;.rename_i hk;have:kp=[]:=(List.append_eq_nil_iff.1 hk).1;subst this;exact .inr ⟨by simp,h⟩
 .by_cases hk:(lv,sl)∈kp;.rw[ba (dk _ hk)]at h;exact .inl ⟨hk,h⟩
  .split at h;.rename_i hk2;have:=(bj.1 hk2).resolve_left hk;exact .inr ⟨hk,(hkr _ this hk).trans h⟩
   .split at h;.exact .inr ⟨hk,h⟩
    .cases h
def ajB{a b:Value}(h:sV a b=true):a=b:=by
 unfold sV at h;split at h;.rw[eq_of_beq h]
 .rw[al]at h;rw[du h.1,du h.2]
 .rename_i a b;have:=du h;have:a=b:=by cases a with|mk a=>cases b with|mk b=>congr 1;exact Array.toList_inj.1 this
  rw[this]
 .rfl
 .cases h
def Gg{α:Type}{f:α->α->Bool}(hf:∀a b,f a b=true->a=b):∀{l m:List α},sL f l m=true->l=m|[],[],_=>rfl|a::l,b::m,h=>by simp only[sL,al]at h;rw[hf a b h.1,Gg hf h.2]|[],_::_,h=>by cases h|_::_,[],h=>by cases h
def Ub:∀(k:Nat)(a b:D),sD k a b=true->a=b
 |0,_,_,h=>by cases h|k+1,a,b,h=>by
  unfold sD at h;split at h;.rw[ajB h]
  .rw[Gg (λ_ _ h=>Gg (λa b h=>Ub k a b h) h) h]
  .rfl
  .cases h
def ajC(a b:AV)(h:sA a b=true):a=b:=by
 have n:∀{a b:Nat},Nat.beq a b=true->a=b:=am;unfold sA at h;split at h;.rw[Ub _ _ _ h]
 .rw[Gg (λ_ _ h=>Gg (λa b h=>Ub 9 a b h) h) h]
 .simp only[al]at h;obtain⟨h1,h2,h3,h4,h5,h6⟩:=h;rw[n h1,n h2,n h3,n h4,n h5,n h6]
 .simp only[al]at h;obtain⟨h1,h2,h3,h4,h5,h6⟩:=h;rw[n h1,n h2,n h3,n h4,n h5,n h6]
 .simp only[al]at h;obtain⟨h1,h2,h3,h4,h5⟩:=h;rw[n h1,n h2,n h3,n h4,n h5]
 .cases h
def ajD{a b:Option bq}(h:sE a b=true):a=b:=by
 unfold sE at h;split at h;.rw[al]at h;rw[am h.1,Gg ajC h.2]
 .rfl
 .cases h
def Io:∀{t:Tr bq}{n:Nat}{e:bq},okT t=true->t.get? n=some e->okE e=true
 |.lf,_,_,_,h=>by cases h|.nd v l r,n,e,ho,h=>by
  simp only[okT,al]at ho;unfold Tr.get? at h;split at h;.subst h;exact ho.1
  .split at h;.exact Io ho.2.1 h
   .exact Io ho.2.2 h
def aaq{m:List (Tr bq)}{lv sl:Nat}{e:bq}(ho:m.all okT=true)(h:aH m lv sl=some e):okE e=true:=by unfold aH at h;cases hm:m[lv]?with|none=>rw[hm]at h;cases h|some t=>rw[hm]at h;exact Io (eQ.1 ho t (f2 hm)) h
section
variable{X:Cx}{O:Nat->Prop}
def Cx.olds(X:Cx)(O:Nat->Prop):Cx:={w:=X.w,F:=X.F,ρ:=X.ρ,old:=O}
def E8.more(h:∀b,X.old b->O b){x:AV}{v:Value}(hv:E8 X x v):E8 (X.olds O) x v:=by cases x with
 |own els o=>cases o with|bG=>obtain⟨a,b,o,sz,cap,h1,h2,h3,h4⟩:=hv;exact⟨a,b,o,sz,cap,h1,h2,h3,h4.region λb _ hb=>h b hb⟩|full=>exact hv|cR ak tz=>exact hv
 |eZ e off=>obtain⟨b,o,hp,hc⟩:=hv;exact⟨b,o,hp,λj x hj=>⟨(hc j x hj).1.imp id (h b),(hc j x hj).2⟩⟩|d x=>exact hv|ref=>exact hv|ptr=>exact hv|dx=>exact hv|mp=>exact hv|agg=>exact hv.elim|fk=>exact hv.elim|fG=>exact hv.elim
def VC.more(h:∀b,X.old b->O b){x:AV}{v:Value}(hv:VC X x v):VC (X.olds O) x v:=by cases x with|fG f c=>obtain⟨vs,h1,h2⟩:=hv;exact⟨vs,h1,h2.mono λ_ _=>E8.more h⟩|_=>simp only[VC]at hv⊢;exact E8.more h hv
def V1.more(h:∀b,X.old b->O b){x:AV}{v:Value}(hv:V1 X x v):V1 (X.olds O) x v:=by cases x with|agg cs=>obtain⟨vs,h1,h2⟩:=hv;exact⟨vs,h1,h2.mono λ_ _=>VC.more h⟩|_=>simp only[V1]at hv⊢;exact VC.more h hv
def VR.more(h:∀b,X.old b->O b){x:AV}{v:Value}(hv:VR X x v):VR (X.olds O) x v:=by cases x with|fk cs=>obtain⟨vs,h1,h2⟩:=hv;exact⟨vs,h1,h2.mono λ_ _=>V1.more h⟩|_=>simp only[VR]at hv⊢;exact V1.more h hv
def Ip{x:AV}{v:Value}(ho:okC x=true)(hv:VC X x v):VC (X.olds O) x v:=by cases x with
 |own els o=>cases o with|bG=>cases ho|full=>exact hv|cR ak tz=>exact hv
 |eZ e off=>cases ho|fG f c=>obtain⟨vs,h1,h2⟩:=hv;cases c with|cons=>cases ho|nil=>exact⟨vs,h1,by cases hvs:vs.toList with|nil=>trivial|cons a b=>rw[hvs]at h2;exact h2.elim⟩
 |d x=>exact hv|ref=>exact hv|ptr=>exact hv|dx=>exact hv|mp=>exact hv|agg=>exact hv.elim|fk=>exact hv.elim
def Ke:∀{xs:List AV}{vs:List Value},xs.all okC=true->aC (VC X) xs vs->aC (VC (X.olds O)) xs vs|[],[],_,_=>trivial|x::xs,v::vs,ho,hv=>by rw[dv,al]at ho;exact⟨Ip ho.1 hv.1,Ke ho.2 hv.2⟩|[],_::_,_,hv=>hv.elim|_::_,[],_,hv=>hv.elim
def Pz{x:AV}{v:Value}(ho:ok1 x=true)(hv:V1 X x v):V1 (X.olds O) x v:=by cases x with|agg cs=>obtain⟨vs,h1,h2⟩:=hv;exact⟨vs,h1,Ke ho h2⟩|_=>simp only[V1]at hv⊢;exact Ip ho hv
def Kf:∀{xs:List AV}{vs:List Value},xs.all ok1=true->aC (V1 X) xs vs->aC (V1 (X.olds O)) xs vs|[],[],_,_=>trivial|x::xs,v::vs,ho,hv=>by rw[dv,al]at ho;exact⟨Pz ho.1 hv.1,Kf ho.2 hv.2⟩|[],_::_,_,hv=>hv.elim|_::_,[],_,hv=>hv.elim
def aar{x:AV}{v:Value}(ho:Cv x=true)(hv:VR X x v):VR (X.olds O) x v:=by cases x with|fk cs=>obtain⟨vs,h1,h2⟩:=hv;exact⟨vs,h1,Kf ho h2⟩|_=>simp only[VR]at hv⊢;exact Pz ho hv
end
section
variable{P:Program}{X:Cx}{s:St}{a:Act}{o:Oper}{dst:Option Nat}{aP:Nat}
def Hid(X:Cx)(m:List (Tr bq))(kp:List (Nat×Nat))(b:Nat):Prop:=∃lv sl e L,(lv,sl)∈kp/\aH m lv sl=some e/\e.fz=false/\X.ρ e.ak=some L/\0<L.cap/\L.b=b
def Gh{nt:NT}{call:Go.bK.Call}(cG:cB P call)(hs:fI X nt s a)(hfr:X.ρ aP=none)(xL:aP<s.nv)(hdom:∀v,s.nv<=v->X.ρ v=none){row:Nat}{kp kr:List (Nat×Nat)}{lv sl f:Nat}{args:List AV}{bR:Array Value}{r:hU}(hargs:aC (VR X) args bR.toList)(hr:qw call row kp kr s lv sl aP f args=some r)(hrun:(∃fn,P.funcs[f]?=some fn/\fn.body.isSome=true/\(fn.name== "runtime.NumGoroutine")=false)->(execOp a.eval o).run P X.w=.ok (.enter f bR) X.w):dF P X s a o dst aP r:=by
 have hmem:=hs.mem;unfold qw at hr;split at hr;.cases hr
 rename_i hnt;split at hr;.cases hr
 rename_i r' cm ts n' hc;split at hr;.cases hr
 rename_i val us hi;split at hr;.cases hr
 rename_i u hu;split at hr;case h_2=>cases hr
 rename_i hok;injection hr with hr;subst hr;rw[al,al]at hok;have hkr:∀k∈kr,k∉kp->aH (aT (cm.take s.mem.length) u) k.1 k.2=aH s.mem k.1 k.2:=λk hk hn=>by have:=ajD (eQ.1 hok.2.2 k hk);rw[this,p7,be hn]
 have hok:Cv val=true/\(aT (cm.take s.mem.length) u).all okT=true:=⟨hok.1,hok.2.1⟩;let O:Nat->Prop:=λb=>X.old b\/Hid X s.mem kp b;have hO:∀b,X.old b->O b:=λb hb=>.inl hb;let X':=X.olds O;let s':St:={s with mem:=j8 s.mem kp};have hlen:s'.mem.length=s.mem.length:=tW _ _;have mE:∀{lv sl:Nat}{e:bq},aH (j8 s.mem kp) lv sl=some e->(lv,sl)∉kp/\aH s.mem lv sl=some e:=by
  intro lv sl e h;rw[p7]at h;split at h;.cases h
  .rename_i hk;exact⟨hk,h⟩
 have acU:∀{k:Nat×Nat×Nat}{v:Nat}{L:Loc},Holds s.mem s.aI k v->(∀lv sl,(lv,sl)∈kp->k≠bU lv sl)->X.ρ v=some L->0<L.cap->¬O L.b:=by
  rintro k v L hk hne hL hc(h|⟨lv0,sl0,e0,L0,h1,h2,h3,h4,h5,h6⟩);.obtain⟨M,hM,h2⟩:=hmem.dh hk;rw[hL]at hM;injection hM with hM;subst hM;exact(h2 hc).2 h
  .exact hmem.apart k (bU lv0 sl0) v e0.ak L L0 hk (.inl ⟨lv0,sl0,e0,rfl,h2,rfl,h3⟩) (hne _ _ h1) hL h4 hc h5 h6.symm
 have blk:∀{b n:Nat},¬O b->Block X b n->Block X' b n:=λho hb=>⟨ho,hb.2⟩;have ajE:aF X' (j8 s.mem kp) s.aI:=by
  refine⟨λlv sl e he=>?_,λv hv=>?_,λk k' v v' L L' h1 h2 h3 h4 h5=>?_,hmem.nG,?_,?_,hmem.pX.gk⟩;.obtain⟨hk,he⟩:=mE he;obtain⟨L,hL,hE⟩:=hmem.fE lv sl e he;refine⟨L,hL,?_⟩;have hold:e.fz=false->0<L.cap->¬O L.b:=λhz hc=>acU (.inl ⟨lv,sl,e,rfl,he,rfl,hz⟩) (λlv0 sl0 h0 hq=>by obtain⟨rfl,rfl⟩:=tI hq;exact hk h0) hL hc;cases e with|row v els=>exact⟨hE.1,hE.2.1,λhc=>⟨blk (hold rfl hc) (hE.2.2.1 hc).1,(hE.2.2.1 hc).2⟩,hE.2.2.2⟩|box v cells=>exact⟨hE.1,blk (hold rfl (by have:=hE.1;omega)) hE.2.1,hE.2.2.1,λj x hj=>by obtain⟨u,h1,h2⟩:=hE.2.2.2 j x hj;exact⟨u,h1,h2.more hO⟩⟩|MY v els=>exact hE|mp v ks=>exact⟨hE.1,hold rfl (by have:=hE.1;omega),hE.2.2⟩
  .obtain⟨L,hL,hT⟩:=hmem.aI v hv;exact⟨L,hL,λhc=>⟨blk (acU (.inr ⟨rfl,hv⟩) (λ_ _ _ hq=>dW hq.symm) hL hc) (hT hc).1,(hT hc).2⟩⟩
  .have up:∀{k:Nat×Nat×Nat}{v:Nat},Holds (j8 s.mem kp) s.aI k v->Holds s.mem s.aI k v:=by
    rintro k v(⟨lv,sl,e,hk,he,hv⟩|h);.exact .inl ⟨lv,sl,e,hk,(mE he).2,hv⟩
    .exact .inr h
   exact hmem.apart k k' v v' L L' (up h1) (up h2) h3 h4 h5
  .rintro b(h|⟨lv0,sl0,e0,L0,h1,h2,h3,h4,h5,rfl⟩);.exact hmem.low b h
   .obtain⟨M,hM,hq⟩:=hmem.dh (k:=bU lv0 sl0) (v:=e0.ak) (.inl ⟨lv0,sl0,e0,rfl,h2,rfl,h3⟩);rw[h4]at hM;injection hM with hM;subst hM;exact(hq h5).1
  .exactλb hb=>.inl (hmem.pX.gb b hb)
 have aeF:aC (VR X') args bR.toList:=hargs.mono λ_ _ h=>h.more hO;have core:=xK (X:=X') (s:=s') (dst:=dst) cG ajE hfr xL hdom aeF hnt hc (by rw[hlen];exact hi) hu hrun;intro K Q hK;refine core K Q λY' v' hx' nh hm' hd'=>?_;let Y:=Y'.olds X.old;have hx:Ext X Y:=⟨rfl,hx'.below.mono hO,hx'.TE,hx'.keep,hx'.loc,λb o hb=>(hx'.new b o hb).imp id λh q=>h (hO b q)⟩;have hm':aF Y' (aT (cm.take s'.mem.length) u) ts:=hm';rw[hlen]at hm';have old':∀b,¬Y'.old b->¬X.old b/\¬O b:=λb hb=>by rw[hx'.base]at hb;exact⟨λq=>hb (hO b q),hb⟩
 have aeG:∀{b n:Nat},Block Y' b n->Block Y b n:=λhb=>⟨(old' _ hb.1).1,hb.2⟩;have ajF:∀{lv sl:Nat}{e:bq},(lv,sl)∈kp->aH s.mem lv sl=some e->∃L,X.ρ e.ak=some L/\Y.ρ e.ak=some L/\oV Y e L:=by
  intro lv sl e hk he;obtain⟨L,hL,hE⟩:=hmem.fE lv sl e he;refine⟨L,hL,hx'.loc _ _ hL,?_⟩;have hid:e.fz=false->0<L.cap->O L.b:=λhz hc=>.inr ⟨lv,sl,e,L,hk,he,hz,hL,hc,rfl⟩;have heap:e.fz=false->0<L.cap->Y'.w.heap[L.b]?=X.w.heap[L.b]?:=λhz hc=>hx'.below.block _ (hid hz hc);have cel:∀{b:Nat}(o:Nat),Y'.w.heap[b]?=X.w.heap[b]?->Y'.w.cell? ⟨b,o,none⟩=X.w.cell? ⟨b,o,none⟩:=λo hb=>by simp[World.cell?,hb]
  have noF:e.fz=false->0<L.cap->(∀o,¬X.F L.b o)->∀o,¬Y'.F L.b o:=λhz hc hn o hF=>by
   rcases hx'.new _ _ hF with h|h;.exact hn o h
   .exact h (hid hz hc)
  have ajG:e.fz=false->0<L.cap->∀{n:Nat},Block X L.b n->Block Y L.b n:=λhz hc n hb=>by obtain⟨h1,c,ce,h2,h3⟩:=hb;exact⟨h1,c,ce,by show Y'.w.heap[L.b]?=_;rw[heap hz hc];exact h2,h3⟩
  cases e with|MY v els=>exact⟨hE.1,hE.2.ext hx⟩|row v els=>
   refine⟨hE.1,hE.2.1,λhc=>⟨ajG rfl hc (hE.2.2.1 hc).1,noF rfl hc (hE.2.2.1 hc).2⟩,λi e j x h1 h2=>?_⟩;have hc:0<L.cap:=by have:=(cb.1 h1).1;have:=hE.1;omega
   obtain⟨u,hu,hd⟩:=hE.2.2.2 i e j x h1 h2;exact⟨u,(cel _ (heap rfl hc)).trans hu,hd.ext hx⟩|box v cells=>
   have hc:0<L.cap:=by have:=hE.1;omega
   refine⟨hE.1,ajG rfl hc hE.2.1,noF rfl hc hE.2.2.1,λj x hj=>?_⟩;obtain⟨u,hu,hd⟩:=hE.2.2.2 j x hj;exact⟨u,(cel _ (heap rfl hc)).trans hu,hd.ext hx⟩|mp v ks=>
   have hc:0<L.cap:=by have:=hE.1;omega
   obtain⟨h1,h2,h3,es,clock,h4,h5⟩:=hE;exact⟨h1,h2,noF rfl hc h3,es,clock,(heap rfl hc).trans h4,h5⟩
 have rest:∀{k:Nat×Nat×Nat}{v:Nat}{L:Loc},Holds (aT (cm.take s.mem.length) u) ts k v->Y.ρ v=some L->0<L.cap->¬O L.b:=by intro k v L hk hL hc;obtain⟨M,hM,h2⟩:=hm'.dh hk;have:Y.ρ v=some M:=hM;rw[hL]at this;injection this with this;subst this;exact(old' _ (h2 hc).2).2
 refine hK Y v' hx (aar hok.1 nh) ?_ hd';show aF Y (back s.mem (aT (cm.take s.mem.length) u) (kp++kr)) ts;refine⟨λlv sl e he=>?_,λv hv=>?_,λk k' v v' L L' h1 h2 hne h3 h4 h5 h6=>?_,hm'.nG,λb hb=>iv (hmem.low b hb) hx.below.size,hmem.pX.gb,hm'.pX.gk⟩
 .rcases Gf hkr he with⟨hk,he⟩|⟨hk,he⟩;.obtain⟨L,_,h1,h2⟩:=ajF hk he;exact⟨L,h1,h2⟩
  .obtain⟨L,hL,hE⟩:=hm'.fE lv sl e he;refine⟨L,hL,?_⟩;have hoe:=aaq hok.2 he;cases e with|MY v els=>exact hE|row v els=>exact⟨hE.1,hE.2.1,λhc=>⟨aeG (hE.2.2.1 hc).1,(hE.2.2.1 hc).2⟩,hE.2.2.2⟩|box v cells=>exact⟨hE.1,aeG hE.2.1,hE.2.2.1,λj x hj=>by obtain⟨u,g1,g2⟩:=hE.2.2.2 j x hj;exact⟨u,g1,Ip (eQ.1 hoe x (f2 hj)) g2⟩⟩|mp v ks=>exact⟨hE.1,(old' _ hE.2.1).1,hE.2.2⟩
 .obtain⟨L,hL,hT⟩:=hm'.aI v hv;exact⟨L,hL,λhc=>⟨aeG (hT hc).1,(hT hc).2⟩⟩
 .have cls:∀{k:Nat×Nat×Nat}{v:Nat},Holds (back s.mem (aT (cm.take s.mem.length) u) (kp++kr)) ts k v->(∃lv sl e,(lv,sl)∈kp/\k=bU lv sl/\aH s.mem lv sl=some e/\e.ak=v/\e.fz=false)\/Holds (aT (cm.take s.mem.length) u) ts k v:=by
   rintro k v(⟨lv,sl,e,hk,he,hv⟩|h)
   .rcases Gf hkr he with⟨hk',he⟩|⟨hk',he⟩;.exact .inl ⟨lv,sl,e,hk',hk,he,hv⟩
    .exact .inr (.inl ⟨lv,sl,e,hk,he,hv⟩)
   .exact .inr (.inr h)
  have aeH:∀{lv sl:Nat}{e:bq}{M:Loc},(lv,sl)∈kp->aH s.mem lv sl=some e->e.fz=false->Y.ρ e.ak=some M->0<M.cap->X.ρ e.ak=some M/\O M.b:=by intro lv sl e M hk he hz hM hc;obtain⟨L,g1,g2,_⟩:=ajF hk he;rw[hM]at g2;injection g2 with g2;subst g2;exact⟨g1,.inr ⟨lv,sl,e,M,hk,he,hz,g1,hc,rfl⟩⟩
  rcases cls h1 with⟨lv,sl,e,q1,q2,q3,rfl,q5⟩|h1
  .obtain⟨x1,x2⟩:=aeH q1 q3 q5 h3 h5;rcases cls h2 with⟨cy,cU,e',p1,p2,p3,rfl,p5⟩|h2;.obtain⟨y1,_⟩:=aeH p1 p3 p5 h4 h6;exact hmem.apart k k' _ _ L L' (.inl ⟨lv,sl,e,q2,q3,rfl,q5⟩) (.inl ⟨cy,cU,e',p2,p3,rfl,p5⟩) hne x1 y1 h5 h6
   .intro hb;exact rest h2 h4 h6 (hb▸x2)
  .rcases cls h2 with⟨cy,cU,e',p1,p2,p3,rfl,p5⟩|h2;.obtain⟨_,y2⟩:=aeH p1 p3 p5 h4 h6;intro hb;exact rest h1 h3 h5 (hb▸y2)
   .exact hm'.apart k k' v v' L L' h1 h2 hne h3 h4 h5 h6
end
section
variable {P:Program} {X:Cx} {nt:NT} {s:St} {a:Act} {o:Oper} {dst:Option Nat} {aP:Nat}
def qQ {t:TypeId} {sz xh:Nat} (h:tK P t=some (sz,xh)):∃ e i z,P.underlying t=some (.slice e)∧P.info? e=some i∧i.zero=some z∧z.cells.size=i.size∧0<i.size∧i.size=sz∧i.bytes=xh:=by
 unfold tK at h
 split at h
 ·split at h
  ·rename_i i z hi hz
   split at h
   ·obtain⟨i',zv,hi',H7,rfl⟩:=jW hz<;>grind
   grind
  grind
 grind
def e9 {f:Nat} {args:Array Operand} {ts:Array TypeId} (ho:o.op=.call { callee:=.value (.func f),args,argTypes:=ts }) (hf:∃ fn,P.funcs[f]?=some fn∧fn.body.isSome=true∧(fn.name == "runtime.NumGoroutine")=false) :
  (execOp a.eval o).run P X.w=.ok (.enter f (args.map a.eval)) X.w:=by
 obtain⟨fn,hf,hb,hn⟩:=hf
 have:=o9 (P:=P) (args:=args.map a.eval) (w:=X.w) hf hb hn
 have he:a.eval (.func f)=.func (.func f) #[] #[]:=rfl
 simp[execOp,ho,resolve,he,Deferred.ofValue,invoke]<;>omega
def Rg {f:Nat} {t:Nat} {args:Array Operand} {ts:Array TypeId} {cap:Array Value} (ho:o.op=.call { callee:=.value (.tmp t),args,argTypes:=ts }) (hv:a.eval (.tmp t)=.func (.func f) #[] cap) (hf:∃ fn,P.funcs[f]?=some fn∧fn.body.isSome=true∧(fn.name == "runtime.NumGoroutine")=false) :
  (execOp a.eval o).run P X.w=.ok (.enter f (args.map a.eval++cap)) X.w:=by
 obtain⟨fn,hf,hb,hn⟩:=hf
 have:=o9 (P:=P) (args:=args.map a.eval++cap) (w:=X.w) hf hb hn
 simp[execOp,ho,resolve,hv,Deferred.ofValue,invoke]<;>omega
def xN (hs:fI X nt s a) (hfr:X.ρ aP=none) {x y:Operand} {x' y':cu} {t u:TypeId} {sz xh:Nat} {row:Bool} {lv sl:Nat} {E:fD} (ho:o.op=.call { callee:=.builtin .append,args:=#[x,y],argTypes:=#[t,u] }) (hu:we P u) (he:tK P t=some (sz,xh))
  (hx:dD x=some x') (hy:dD y=some y') (hr:ew s row lv sl aP sz xh (x'.ev s.slots) (y'.ev s.slots)=some E):dF P X s a o dst aP (.bT E):=by
 obtain⟨e,i,z,ht,hi,hz,hzs,h0,rfl,rfl⟩:=qQ he
 obtain⟨Y,v,h1,h2,h3,h4,h5⟩:=tT (P:=P) (ty:=o.type) (n:=s.nv) hs.mem hfr ht hu hi hz hzs h0 (bC hs hx) (bC hs hy) hr
 exact .value (tQ (w:=Y.w) ho h1) h2 h3 h4 h5
def Rh (hs:fI X nt s a) (hfr:X.ρ aP=none) {t e:TypeId} {sz l h k:Nat} {x:Operand} {x':cu} {lo hi mx:Option Operand} {lo' hi' Fb:Option cu} {E:fD} (ho:o.op=.slice t x lo hi mx) (ht:P.underlying t=some (.slice e)) (hsz:dZ P e=some sz)
  (hx:dD x=some x') (hlo:rQ lo=some lo') (hhi:rQ hi=some hi') (TN:rQ mx=some Fb) (bl:gn lo' s.slots 0=some l) (bh:gn hi' s.slots 0=some h) (bk:gn Fb s.slots 0=some k)
  (c4:Fb.isNone=true) (hr:JN s aP sz (x'.ev s.slots) l (hi'.map fun _=>h)=some E):dF P X s a o dst aP (.bT E):=by
 have hv:=bC hs hx
 have eh:∀ n,(hi'.map fun _=>h).getD n=if hi'.isSome then h else n:=fun n=>by cases hi'<;>rfl
 have em:Fb.isSome=false:=by simp_all
 unfold JN at hr
 split at hr
 ·rename_i lv sl ak off len sz' he
  split at hr
  ·rename_i els hrow
   split at hr
   ·rename_i hc
    obtain⟨rfl,c1,c2,c3⟩:=hc
    cases hr
    rw[he] at hv
    obtain⟨L,ad,cap,hL,hLs,Nn,hle,h4⟩:=hv
    obtain⟨Y,hw,g1,g2,g3,g4⟩:=Pt (n:=s.nv) hs.mem hfr (h':=(hi'.map fun _=>h).getD len) ⟨L,ad,cap,hL,hLs,rfl,hle,h4⟩ hrow c1 c2 c3
    have run:=FR hs (P:=P) ho ht hsz Nn hlo hhi TN bl bh bk (by rw[←eh];exact c1) (by rw[←eh,em];simp only[jp,ns];omega) (by rw[em];simp) (by rw[em];exact fun h=>by cases h)
    rw[←eh,em] at run
    refine .value (Y:=Y) (by rw[hw];exact run) g1 g2 ?_ g4
    exact g3
   grind
  grind
 grind
def Fm (hs:fI X nt s a) (hfr:X.ρ aP=none) {x y:Operand} {x' y':cu} {t u e':TypeId} {sz xh k:Nat} {kd:IntKind} {zl:List Value} {z:List D} {row:Bool} {lv sl:Nat} {E:fD} (ho:o.op=.call { callee:=.builtin .append,args:=#[x,y],argTypes:=#[t,u] }) (hu:P.underlying u=some (.int kd)) (ht':P.underlying t=some (.slice e')) (he:tK P t=some (sz,xh))
  (hzp:oX P e'=some zl) (Fk:jT zl=some z) (hzl:z.length=sz) (hx:dD x=some x') (hy:dD y=some y') (hk:gT (y'.ev s.slots)=some k) (h63:k≤eU) (hby:k*xh≤jz) (hr:ew s row lv sl aP sz xh (x'.ev s.slots) (.d (.sl (List.replicate k z)))=some E):dF P X s a o dst aP (.bT E):=by
 obtain⟨e,i,zv,ht,hi,hz,hzs,h0,rfl,rfl⟩:=qQ he
 simp_all
 obtain⟨i',zv',hi',H7,rfl⟩:=jW hzp
 rw[hi] at hi';cases hi'
 rw[hz] at H7;cases H7
 obtain⟨kk,hke⟩:=ld hk (bC hs hy)
 have hZ:aC (DR X.w X.F) z zv.cells.toList:=mF Fk
 have vZ:=jB hZ hzl h0 k (k*i.size) (bc _)
 have lu:(madeCells zv.cells (k*i.size)).toList.take (k*i.size)=(Builtin.zeroCells zv.cells k).toList:=by
  rw[fx (by simp[madeCells])]
  simp[madeCells,Builtin.zeroCells,hzs]
 rw[lu] at vZ
 obtain⟨Y,v,h1,h2,h3,h4,h5⟩:=xE (P:=P) (u:=u) (ty:=o.type) (yv:=a.eval y) (n:=s.nv) hs.mem hfr ht hi hz hzs h0 (bC hs hx) (fun news hn hnl=>by
  injection hn with hn;subst hn
  refine⟨_,vZ,?_⟩
  rw[kb]
  exact .zero kd kk zv hu hz hzs hke h63 hby rfl) hr
 exact .value (tQ (w:=Y.w) ho h1) h2 h3 h4 h5
def Kg (hs:fI X nt s a) (hfr:X.ρ aP=none) {f T:Nat} {x:Operand} {x':cu} {ts:Array TypeId} {sz xh:Nat} {row:Bool} {lv sl:Nat} {E:fD} {els:List (List D)} (hc:xH P f T) (ho:o.op=.call { callee:=.value (.func f),args:=#[x],argTypes:=ts }) (he:tK P T=some (sz,xh))
  (hx:dD x=some x') (hel:dL s.mem (x'.ev s.slots)=some els) (hr:ew s row lv sl aP sz xh (.own [] .full) (x'.ev s.slots)=some E):dF P X s a o dst aP (.bT E):=by
 obtain⟨e,i,z,ht,hi,hz,hzs,h0,rfl,rfl⟩:=qQ he
 have hv:=bC hs hx
 obtain⟨ad,cap,_,_,_,cv,_⟩:=o7 hs.mem hel hv
 have lu:=J5 (P:=P) (n:=s.nv) hc hs.mem hfr ht hi hz hzs h0 hv ⟨ad,_,cap,cv⟩ hr
 obtain⟨fn,hf,hb,_,_,hn⟩:=hc.fn
 intro K Q hK
 unfold Oper.wp
 have hrun:(execOp a.eval o).run P X.w=.ok (.enter f #[a.eval x]) X.w:=by
  have:=e9 (P:=P) (X:=X) (a:=a) ho ⟨fn,hf,by rw[hb];rfl,hn⟩<;>grind
 rw[hrun]
 refine Calls.mono lu ?_
 rintro en w' ⟨Y,v,rfl,rfl,h2,h3,h4,h5⟩
 exact hK Y v h2 h3 h4 h5
def vM (hs:fI X nt s a) (hfr:X.ρ aP=none) {x y:Operand} {x' y':cu} {t u:TypeId} {sz xh:Nat} {lv sl:Nat} {E:fD} (ho:o.op=.call { callee:=.builtin .append,args:=#[x,y],argTypes:=#[t,u] }) (hu:we P u) (he:tK P t=some (sz,xh))
  (hx:dD x=some x') (hy:dD y=some y') (hr:kH s lv sl aP sz xh (x'.ev s.slots) (y'.ev s.slots)=some E):dF P X s a o dst aP (.bT E):=by
 obtain⟨e,i,z,ht,hi,hz,hzs,h0,rfl,rfl⟩:=qQ he
 obtain⟨Y,v,h1,h2,h3,h4,h5⟩:=xF (P:=P) (ty:=o.type) (n:=s.nv) hs.mem hfr ht hu hi hz hzs h0 (bC hs hx) (bC hs hy) hr
 exact .value (tQ (w:=Y.w) ho h1) h2 h3 h4 h5
def Iq (hs:fI X nt s a) (hfr:X.ρ aP=none) {f T:Nat} {x:Operand} {x':cu} {ts:Array TypeId} {sz xh:Nat} {lv sl:Nat} {E:fD} (hc:xH P f T) (ho:o.op=.call { callee:=.value (.func f),args:=#[x],argTypes:=ts }) (he:tK P T=some (sz,xh))
  (hx:dD x=some x') (hr:kH s lv sl aP sz xh (.own [] .full) (x'.ev s.slots)=some E):dF P X s a o dst aP (.bT E):=by
 obtain⟨e,i,z,ht,hi,hz,hzs,h0,rfl,rfl⟩:=qQ he
 have hv:=bC hs hx
 obtain⟨new,hnew,hlen⟩:=J1 hr
 have lu:=Ie (P:=P) (n:=s.nv) hc hs.mem hfr ht hi hz hzs h0 hv (J0 hs.mem hnew hv hlen) hr
 obtain⟨fn,hf,hb,_,_,hn⟩:=hc.fn
 intro K Q hK
 unfold Oper.wp
 have hrun:(execOp a.eval o).run P X.w=.ok (.enter f #[a.eval x]) X.w:=by
  have:=e9 (P:=P) (X:=X) (a:=a) ho ⟨fn,hf,by rw[hb];rfl,hn⟩
  simpa using this
 rw[hrun,Oper.upon_enter]
 refine Calls.mono lu ?_
 rintro en w' ⟨Y,v,rfl,rfl,h2,h3,h4,h5⟩
 exact hK Y v h2 h3 h4 h5
def E8.VR {X:Cx} {x:AV} {v:Value} (h:E8 X x v):Go.bK.VR X x v:=by
 cases x<;>first|exact h|exact h.elim
def Uc {call : Go.bK.Call} {sh : Nat → Bool} {dw : Nat → Option TypeId} (cG : cB P call) (ic : ∀ f T, dw f = some T → kB P f T) (hs : fI X nt s a) (hfr : X.ρ aP = none) (xL : aP < s.nv) (hdom : ∀ v, s.nv ≤ v → X.ρ v = none) {c : Go.Call} {ZN : cF} {row d : Nat} {r : hU}
  (ho:o.op=.call c) (hp:TH P dw c=some ZN) (hr:ZN.run call sh s row d aP=some r):dF P X s a o dst aP r:=by
 obtain⟨callee,args,ts⟩:=c
 obtain⟨args⟩:=args
 obtain⟨ts⟩:=ts
 unfold TH at hp
 cases callee with
 | value f =>
  cases f with
  | func f =>
   simp at hp
   split at hp
   ·rename_i T x hT
    split at hp
    ·rename_i hq
     have hq:=am hq
     obtain⟨x',hx',rfl⟩:=aJ hp
     obtain⟨E,hE,rfl⟩:=aJ hr
     have hc:=(ic f T hT).sort hq
     have hrun:(execOp a.eval o).run P X.w=.ok (.enter f #[a.eval x]) X.w:=by
      have:=e9 (P:=P) (X:=X) (a:=a) ho hc.fn
      simpa using this
     exact Nl (_ts:=ts.toArray) hs hc hrun hx' hE
    ·rename_i hq
     split at hp
     ·rename_i y8
      have y8:=am y8
      obtain⟨x',hx',rfl⟩:=aJ hp
      obtain⟨E,hE,rfl⟩:=aJ hr
      have hc:=(ic f T hT).compact y8
      have hrun:(execOp a.eval o).run P X.w=.ok (.enter f #[a.eval x]) X.w:=by
       have:=e9 (P:=P) (X:=X) (a:=a) ho hc.fn
       simpa using this
      exact Fl (_ts:=ts.toArray) hs hfr hc hrun hx' hE
     ·rename_i y8
      split at hp
      ·rename_i sz xh x' he hx'
       cases hp
       simp[cF.run] at hr
       split at hr
       ·obtain ⟨E, hE, rfl⟩ := aJ hr
        exact Iq hs hfr ((ic f T hT).clone (by rintro rfl;cases hq) (by rintro rfl;cases y8)) ho he hx' hE
       split at hr
       ·rename_i els hel
        obtain⟨E,hE,rfl⟩:=aJ hr
        exact Kg hs hfr ((ic f T hT).clone (by rintro rfl;cases hq) (by rintro rfl;cases y8)) ho he hx' hel hE
       ·cases hr
      ·cases hp
   ·cases hp
   ·split at hp
    ·obtain ⟨aK, has, rfl⟩ := aJ hp
     simp[cF.run] at hr
     have hargs:=xp hs has
     split at hr
     ·exact Gh cG hs hfr xL hdom (bR:=(Array.mk _).map a.eval) (by rw[la];exact hargs) hr fun hf=>e9 ho hf
     split at hr
     ·exact zk cG hs hfr xL hdom (bR:=(Array.mk _).map a.eval) (by rw[la];exact hargs) hr fun hf=>e9 ho hf
     ·exact Ge cG hs (bR:=(Array.mk _).map a.eval) (by rw[la];exact hargs) hr fun hf=>e9 ho hf
    ·obtain ⟨aK, has, rfl⟩ := aJ hp
     simp[cF.run] at hr
     have hargs:=xp hs has
     split at hr
     ·exact Gh cG hs hfr xL hdom (bR:=(Array.mk _).map a.eval) (by rw[la];exact hargs) hr fun hf=>e9 ho hf
     split at hr
     ·exact Ge cG hs (bR:=(Array.mk _).map a.eval) (by rw[la];exact hargs) hr fun hf=>e9 ho hf
     ·split at hr
      ·exact Rc cG hs hdom (bR:=(Array.mk _).map a.eval) (by rw[la];exact hargs) hr fun hf=>e9 ho hf
      split at hr
      ·exact Re cG hs hfr (bR:=(Array.mk _).map a.eval) (by rw[la];exact hargs) hr fun hf=>e9 ho hf
      split at hr
      ·exact Rf cG hs hfr (bR:=(Array.mk _).map a.eval) (by rw[la];exact hargs) hr fun hf=>e9 ho hf
      ·exact zk cG hs hfr xL hdom (bR:=(Array.mk _).map a.eval) (by rw[la];exact hargs) hr fun hf=>e9 ho hf
  | tmp t =>
   obtain⟨aK,has,rfl⟩:=aJ hp
   simp[cF.run] at hr
   split at hr
   ·rename_i f cap hq
    have hargs:=xp hs has
    have hv:=bC hs (x:=.tmp t) (y:=.t t) rfl
    rw[hq] at hv
    obtain⟨vs,hv,hcap⟩:=hv
    refine zk cG hs hfr xL hdom (bR:=(Array.mk args).map a.eval++vs) (by
     rw[Array.toList_append,la]
     exact hargs.append (hcap.mono fun _ _=>E8.VR)) hr fun hf=>Rg ho hv hf
   ·cases hr
  |const v=>cases hp
  |global g=>cases hp
 |invoke r m=>cases hp
 | builtin b =>
  simp at hp
  split at hp
  ·
   split at hp
   ·rename_i e hu
    obtain⟨x',hx',rfl⟩:=aJ hp
    simp[cF.run] at hr
    split at hr
    ·rename_i els hq
     rw[bQ hr]
     exact .quiet hs (HX hs ho hu hx' (.inl ⟨els,.inl hq,rfl⟩))
    ·rename_i els ow hq
     rw[bQ hr]
     exact .quiet hs (HX hs ho hu hx' (.inl ⟨els,.inr ⟨_,hq⟩,rfl⟩))
    ·rename_i lv sl ak off n sz hq
     rw[bQ hr]
     exact .quiet hs (HX hs ho hu hx' (.inr (.inl ⟨_,_,_,_,_,hq⟩)))
    ·rename_i lv sl ak off n sz hq
     rw[bQ hr]
     exact .quiet hs (HX hs ho hu hx' (.inr (.inr ⟨_,_,_,_,_,hq⟩)))
    ·cases hr
   ·rename_i hu
    obtain⟨x',hx',rfl⟩:=aJ hp
    simp[cF.run] at hr
    split at hr
    ·rename_i b hq
     rw[bQ hr]
     exact .quiet hs (aad hs ho hu hx' hq)
    ·cases hr
   ·rename_i n e hu
    cases hp
    rw[bQ hr]
    exact .quiet hs (Po ho (.inl ⟨e,hu⟩))
   ·rename_i e hu
    split at hp
    ·rename_i n e' lF
     cases hp
     rw[bQ hr]
     exact .quiet hs (Po ho (.inr ⟨e,e',hu,lF⟩))
    ·cases hp
   ·cases hp
  ·
   split at hp
   ·rename_i e kd ht hu
    split at hp
    ·rename_i sz xh z x' y' he hz hx' hy'
     split at hp
     ·rename_i hzl
      cases hp
      obtain⟨zl,hzp,Fk⟩:=aV hz
      obtain⟨k,hk,hr⟩:=aV hr
      split at hr
      ·rename_i hc
       obtain⟨E,hE,rfl⟩:=aJ hr
       exact Fm hs hfr ho hu ht he hzp Fk hzl hx' hy' hk hc.2.1 hc.2.2 hE
      ·cases hr
     ·cases hp
    ·cases hp
   ·cases hp
   ·rename_i hu
    split at hp
    ·rename_i sz xh x' y' he hx' hy'
     injection hp with hp;subst hp
     simp only[cF.run] at hr
     split at hr
     ·obtain ⟨E, hE, rfl⟩ := aJ hr
      exact vM hs hfr ho (.inl ⟨_,hu⟩) he hx' hy' hE
     ·obtain ⟨E, hE, rfl⟩ := aJ hr
      exact xN hs hfr ho (.inl ⟨_,hu⟩) he hx' hy' hE
    ·cases hp
   ·rename_i hu
    split at hp
    ·rename_i sz xh x' y' he hx' hy'
     injection hp with hp;subst hp
     simp only[cF.run] at hr
     split at hr
     ·obtain ⟨E, hE, rfl⟩ := aJ hr
      exact vM hs hfr ho (.inr hu) he hx' hy' hE
     ·obtain ⟨E, hE, rfl⟩ := aJ hr
      exact xN hs hfr ho (.inr hu) he hx' hy' hE
    ·cases hp
   ·cases hp
  ·
   split at hp
   ·rename_i e hu
    split at hp
    ·rename_i i x' y' hi hx' hy'
     split at hp
     ·rename_i h0
      injection hp with hp;subst hp
      simp only[cF.run] at hr
      split at hr
      ·rename_i lv sl ak off n sz' news hq hn
       split at hr
       ·rename_i cs hb
        split at hr
        ·rename_i hc
         obtain⟨rfl,ou,JZ⟩:=hc
         injection hr with hr;subst hr
         exact Nj hs ho hu hi h0 hx' hy' hq hn hb ou (kI JZ)
        ·cases hr
       ·cases hr
      ·rename_i lv sl ak off ln sz' news hq hn
       split at hr
       ·rename_i els hb
        split at hr
        ·rename_i hc
         obtain⟨rfl,ou,JZ⟩:=hc
         injection hr with hr;subst hr
         exact Ni hs ho hu hi h0 hx' hy' hq hn hb ou (kI JZ)
        ·cases hr
       ·cases hr
      ·cases hr
     ·cases hp
    ·cases hp
   ·cases hp
  ·
   split at hp
   ·rename_i e hu
    split at hp
    ·rename_i sz z x' hsz hz hx'
     split at hp
     ·rename_i hc0
      cases hp
      obtain⟨zl,hzl,Fk⟩:=aV hz
      simp[cF.run] at hr
      split at hr
      ·rename_i lv sl ak off ln sz' hq
       split at hr
       ·rename_i els hb
        split at hr
        ·rename_i hc
         obtain⟨rfl,ou,JZ⟩:=hc
         cases hr
         exact xG hs ho hu hzl Fk JZ hc0.2 hx' hq hb ou
        ·cases hr
       ·cases hr
      ·cases hr
     ·cases hp
    ·cases hp
   ·cases hp
  ·
   split at hp
   ·rename_i e hu
    obtain⟨x',hx',rfl⟩:=aJ hp
    simp[cF.run] at hr
    split at hr
    ·rename_i els hq
     rw[bQ hr]
     exact .quiet hs (aac hs ho hu hx' hq)
    ·cases hr
   ·cases hp
  ·
   split at hp
   ·rename_i x' y' hx' hy'
    cases hp
    simp[cF.run] at hr
    split at hr
    ·rename_i k p k' q hq1 y8
     split at hr
     ·subst_vars
      rw[bQ hr]
      exact .quiet hs (aev hs ho hx' hy' hq1 y8)
     ·cases hr
    ·cases hr
   ·cases hp
  ·
   split at hp
   ·rename_i x' y' hx' hy'
    cases hp
    simp[cF.run] at hr
    split at hr
    ·rename_i k p k' q hq1 y8
     split at hr
     ·subst_vars
      rw[bQ hr]
      exact .quiet hs (aew hs ho hx' hy' hq1 y8)
     ·cases hr
    ·cases hr
   ·cases hp
  ·cases hp
end
section
variable {P:Program} {X:Cx} {nt:NT} {s:St} {a:Act} {o:Oper} {dst:Option Nat} {aP:Nat}
def Ir {t:TypeId} {fs:Array Field} {zl:List Value} {pl:List (Nat×Nat)} {it:TypeInfo} {z:Value} (hi:P.info? t=some it) (hz:it.zero=some z) (_h:zl=z.cells.toList) (ht:P.underlying t=some (.struct fs)) (hp:HR P fs=some pl) (parts:List (Nat×Value)) :
  P.built t parts=Instr.fill (pl.toArray[·]?) z.cells parts:=by
 unfold HR at hp
 simp[Program.built,hi,ht,hz,hp]
def aeI {call : Go.bK.Call} {sh : Nat → Bool} {dw : Nat → Option TypeId} (cG : cB P call) (ic : ∀ f T, dw f = some T → kB P f T) (hs : fI X nt s a) (hfr : X.ρ aP = none) (xL : aP < s.nv) (hdom : ∀ v, s.nv ≤ v → X.ρ v = none) {ZN : cF} {row d : Nat} {r : hU}
  (hp:Fa P dw o.op=some ZN) (hr:ZN.run call sh s row d aP=some r):dF P X s a o dst aP r:=by
 cases ho:o.op with
 |move x=>
  rw[ho] at hp
  obtain⟨x',hx,rfl⟩:=aJ hp
  exact CQ hs hfr (by simp[execOp,ho]) hx hr
 |assign x=>
  rw[ho] at hp
  obtain⟨x',hx,rfl⟩:=aJ hp
  exact CQ hs hfr (by simp[execOp,ho]) hx hr
 | pick c x y =>
  rw[ho] at hp
  simp[Fa] at hp
  split at hp
  ·rename_i c' x' y' hc hx hy
   cases hp
   obtain⟨b,hb,hr⟩:=aV hr
   rw[bQ hr]
   exact .quiet hs (HV hs ho hc hx hy hb)
  ·cases hp
 |alloc t=>
  rw[ho] at hp
  obtain⟨z,hz,hp⟩:=aV hp
  obtain⟨cs,hcs,rfl⟩:=aJ hp
  cases hr
  exact CH hs hfr ho hz hcs
 | box t x =>
  rw[ho] at hp
  obtain⟨x',hx,rfl⟩:=aJ hp
  simp only[cF.run] at hr
  split at hr
  ·obtain ⟨cs, hcs, rfl⟩ := aJ hr
   exact TQ hs hfr ho hx hcs
  ·split at hr
   ·obtain ⟨cs, hcs, hr⟩ := aV hr
    obtain⟨ds,hds,hr⟩:=aV hr
    rw[bQ hr]
    exact aae hs hfr ho hx hcs hds
   ·obtain ⟨cs, hcs, rfl⟩ := aJ hr
    exact TQ hs hfr ho hx hcs
 | build t ps =>
  rw[ho] at hp
  simp only[Fa] at hp
  split at hp
  ·rename_i z fs hz ht
   split at hp
   ·rename_i z' pl hzc hpl
    obtain⟨l,hl,rfl⟩:=aJ hp
    obtain⟨cs,hcs,hr⟩:=aV hr
    rw[bQ hr]
    obtain⟨it,zv,hi,H7,rfl⟩:=jW hz
    exact .quiet hs (JS hs _ ho hzc (Ir hi H7 rfl ht hpl) hl hcs hi)
   ·cases hp
  ·rename_i z n e hz ht
   split at hp
   ·rename_i z' sz hzc hsz
    obtain⟨l,hl,rfl⟩:=aJ hp
    obtain⟨cs,hcs,hr⟩:=aV hr
    rw[bQ hr]
    obtain⟨it,zv,hi,H7,rfl⟩:=jW hz
    obtain⟨ie,hie,aes⟩:=gj hsz
    refine .quiet hs (JS hs (fun i=>some (i*sz,sz)) ho hzc (fun parts=>?_) hl hcs hi)
    simp[Program.built,hi,ht,H7,hie,aes]
   ·cases hp
  ·cases hp
 | buildSlice t n ps =>
  rw[ho] at hp
  simp[Fa] at hp
  split at hp
  ·rename_i e ht
   split at hp
   ·rename_i sz z l hsz hz hl
    split at hp
    ·rename_i hc
     cases hp
     obtain⟨zl,hzl,Fk⟩:=aV hz
     simp only[cF.run] at hr
     split at hr
     ·split at hr
      ·cases hr
      ·rename_i hn
       obtain⟨cs,hf,rfl⟩:=aJ hr
       exact JW (P:=P) (dst:=dst) (d:=d) hs hfr ho ht hsz hzl Fk hl hc.1 hc.2.1 hc.2.2 (beq_false.1 hn) hf
     split at hr
     ·cases hr
     ·rename_i els ks hf
      have:=fun rd d lq=>Fj (lq:=lq) (P:=P) (dst:=dst) (rd:=rd) (d:=d) hs hfr ho ht hsz hzl Fk hl hc.1 hc.2.1 hc.2.2 hf
      split at hr
      ·injection hr with hr; subst hr
       exact (this _ d 0).1
      ·split at hr
       ·cases hr
       ·rename_i hnk
        injection hr with hr;subst hr
        exact (this _ d _).2 hnk
    ·cases hp
   ·cases hp
  ·cases hp
 |insert t m k v=>rw[ho] at hp;cases hp
 | load t x =>
  rw[ho] at hp
  simp[Fa] at hp
  split at hp
  ·rename_i sz agg x' hsz Av hx
   split at hp
   ·rename_i h1
    cases hp
    obtain⟨cs,hcs,hr⟩:=aV hr
    obtain⟨v,hv,rfl⟩:=aJ hr
    exact .quiet hs (xu hs ho hsz Av h1 hx hcs hv)
   ·cases hp
  ·cases hp
 | store t x v =>
  rw[ho] at hp
  simp[Fa] at hp
  split at hp
  ·rename_i sz x' v' hsz hx hv
   cases hp
   obtain⟨e,he,rfl⟩:=aJ hr
   exact TU hs ho hsz hx hv he
  ·cases hp
 |ready g=>rw[ho] at hp;cases hp
 |waits g=>rw[ho] at hp;cases hp
 | nilCheck x =>
  rw[ho] at hp
  obtain⟨x',hx,rfl⟩:=aJ hp
  simp[cF.run] at hr
  split at hr
  ·rename_i lv sl ak i off hq
   rw[bQ hr]
   exact .quiet hs (tL hs ho hx hq (.inl ⟨_,_,_,_,_,rfl⟩))
  ·rename_i e off hq
   rw[bQ hr]
   exact .quiet hs (tL hs ho hx hq (.inr (.inl ⟨_,_,rfl⟩)))
  ·rename_i f cs hq
   rw[bQ hr]
   exact .quiet hs (tL hs ho hx hq (.inr (.inr ⟨_,_,rfl⟩)))
  ·cases hr
 | binOp op t x y u =>
  rw[ho] at hp
  simp[Fa] at hp
  split at hp
  ·rename_i x' y' hx hy
   have plain:∀ {ZN:cF},ZN=.bin op x' y'→ZN.run call sh s row d aP=some r→dF P X s a o dst aP r:=by
    rintro ZN rfl hr
    obtain⟨v,hv,hr⟩:=aV hr
    rw[bQ hr]
    exact .quiet hs (aep hs ho hx hy hv)
   have cmp : ∀ (neg : Bool), op = (if neg then .neq else .eql) → Pj P op neg t x' y' = some ZN → dF P X s a o dst aP r := by
    intro neg hop hc
    have ho':o.op=.binOp (if neg then .neq else .eql) t x y u:=by rw[ho,hop]
    unfold Pj at hc
    split at hc
    ·rename_i hu
     cases hc
     simp[cF.run] at hr
     split at hr
     ·rename_i p q hp hq
      rw[bQ hr]
      exact .quiet hs (aeq hs ho' hu hx hy hp hq)
     ·cases hr
    ·simp_all
    ·simp_all
    ·cases hc
     simp[cF.run] at hr
    ·rename_i ms hu
     split at hc
     ·cases hc
      simp[cF.run] at hr
      split at hr
      ·rename_i hq
       rw[bQ hr]
       exact .quiet hs ((JR hs ho' hu hx hy).1 hq)
      ·rename_i hq
       rw[bQ hr]
       exact .quiet hs ((JR hs ho' hu hx hy).2 hq)
      ·cases hr
     ·cases hc
    ·rename_i fs hu
     split at hc
     ·cases hc
     ·rename_i hg
      split at hc
      ·rename_i l sz hl hsz
       cases hc
       simp[cF.run] at hr
       split at hr
       ·rename_i xs ys hxs hys
        split at hr
        ·cases hr
        ·rename_i hlen
         obtain⟨h3,h4⟩:=sm.1 hlen
         obtain⟨b,hb,hr⟩:=aV hr
         rw[bQ hr]
         exact .quiet hs (TK hs ho' hu (by simpa using hg) hl hsz hx hy hxs hys (Classical.byContradiction h3) (Classical.byContradiction h4) hb)
       ·cases hr
      ·cases hc
    ·cases hc
   split at hp
   ·exact cmp false rfl hp
   ·exact cmp true rfl hp
   ·simp_all
  ·cases hp
 |unOp op t x=>
  rw[ho] at hp
  obtain⟨x',hx,rfl⟩:=aJ hp
  obtain⟨v,hv,hr⟩:=aV hr
  rw[bQ hr]
  exact .quiet hs (ajt hs ho hx hv)
 | convert src ds x =>
  rw[ho] at hp
  simp[Fa] at hp
  split at hp
  ·rename_i dsc k hsrc hds
   obtain⟨x',hx,rfl⟩:=aJ hp
   obtain⟨n,hn,hr⟩:=aV hr
   rw[bQ hr]
   exact .quiet hs (aaa hs ho hds (by rw[hsrc];rfl) hx hn)
  ·rename_i e hsrc hds
   split at hp
   ·rename_i he8
    obtain⟨x',hx,rfl⟩:=aJ hp
    obtain⟨els,hel,hr⟩:=aV hr
    obtain⟨l,hl,hr⟩:=aJ hr
    subst hr
    exact .quiet hs (aex hs ho hsrc he8 hds hx hel hl)
   ·cases hp
  ·rename_i e hsrc hds
   split at hp
   ·rename_i he8
    obtain⟨x',hx,rfl⟩:=aJ hp
    simp[cF.run] at hr
    split at hr
    ·rename_i b hb
     rw[bQ hr]
     exact aey hs hfr ho hsrc hds he8 hx hb
    ·cases hr
   ·cases hp
  ·cases hp
 |sliceToArrayPointer t x=>rw[ho] at hp;cases hp
 |makeInterface t x=>
  rw[ho] at hp
  cases hp
  simp[cF.run] at hr
 | makeFunc fn first cap =>
  rw[ho] at hp
  simp only[Fa] at hp
  split at hp
  ·split at hp
   ·rename_i h0
    obtain⟨cap',hcap,rfl⟩:=aJ hp
    simp at h0
    subst h0
    simp only[cF.run] at hr
    split at hr
    ·rename_i hall
     rw[bQ hr]
     exact .quiet hs (Ax hs ho hcap hall)
    ·cases hr
   ·cases hp
  ·cases hp
 | makeMap t x =>
  cases x with
  |some _=>rw[ho] at hp;cases hp
  | none =>
   rw[ho] at hp
   simp[Fa] at hp
   split at hp
   ·split at hp
    ·cases hp
     cases hr
     exact T1 hs hfr ho
    ·cases hp
   ·cases hp
 |makeChan t x=>rw[ho] at hp;cases hp
 | makeSlice t l c =>
  rw[ho] at hp
  simp[Fa] at hp
  split at hp
  ·rename_i e ht
   split at hp
   ·rename_i i z l' c' hi hz hl hc
    split at hp
    ·rename_i h0
     cases hp
     obtain⟨zl,hzl,Fk⟩:=aV hz
     simp[cF.run] at hr
     split at hr
     ·rename_i ln cn hln hcn
      split at hr
      ·rename_i Gi
       cases hr
       exact H8 hs hfr ho ht hi hzl Fk Gi.2.2.2 h0 hl hc hln hcn Gi.1 Gi.2.1 Gi.2.2.1
      ·cases hr
     ·cases hr
    ·cases hp
   ·cases hp
  ·cases hp
 | slice t x lo hi mx =>
  rw[ho] at hp
  simp[Fa] at hp
  split at hp
  ·rename_i e ht
   split at hp
   ·rename_i sz x' lo' hi' Fb hsz hx hlo hhi TN
    split at hp
    ·cases hp
    ·rename_i h0
     cases hp
     have c4:Fb.isSome=true→hi'.isSome=true:=by
      intro h;cases hi' with
      |some _=>rfl
      |none=>exact absurd (.inr ⟨h,rfl⟩) h0
     simp[cF.run] at hr
     split at hr
     ·rename_i l h k bl bh bk
      split at hr
      ·rename_i hq
       rw[al,al] at hq
       obtain⟨E,hE,hr⟩:=aJ hr
       subst hr
       exact Rh hs hfr ho ht hsz hx hlo hhi TN bl bh bk hq.2.1 hE
      ·obtain ⟨v, hv, hr⟩ := aV hr
       rw[bQ hr]
       exact .quiet hs (TO hs ho ht hsz hx hlo hhi TN bl bh bk c4 hv)
     ·cases hr
   ·cases hp
  ·rename_i n e ht
   split at hp
   ·rename_i sz x' hsz hx
    split at hp
    ·cases hp
    ·rename_i h0
     cases hp
     simp[cF.run] at hr
     split at hr
     ·rename_i lv sl ak i off hq
      split at hr
      ·rename_i hi0
       have hi0:=beq_true.1 hi0
       subst hi0
       rw[bQ hr]
       exact .quiet hs (Q1 hs ho ht hsz h0 hx hq)
      ·cases hr
     ·cases hr
   ·rename_i k sz x' hsz hx
    split at hp
    ·rename_i h0
     cases hp
     simp[cF.run] at hr
     split at hr
     ·rename_i lv sl ak i off hq
      split at hr
      ·rename_i hi0
       rw[al] at hi0
       have hi1:=beq_true.1 hi0.1
       subst hi1
       rw[bQ hr]
       exact .quiet hs (Q2 hs ho ht hsz h0 (by simpa[Nat.blt_eq] using hi0.2) hx hq)
      ·cases hr
     ·cases hr
    ·cases hp
   ·cases hp
  ·rename_i ht
   split at hp
   ·rename_i x' lo' hi' hx hlo hhi
    cases hp
    simp[cF.run] at hr
    split at hr
    ·rename_i b hq
     split at hr
     ·rename_i l h bl bh
      split at hr
      ·rename_i hc
       rw[bQ hr]
       exact .quiet hs (Q3 hs ho ht hx hlo hhi hq bl bh hc.1 hc.2)
      ·cases hr
     ·cases hr
    ·cases hr
   ·cases hp
  ·cases hp
 | fieldAddr t x f =>
  rw[ho] at hp
  simp[Fa] at hp
  split at hp
  ·rename_i fs ht
   split at hp
   ·rename_i fl hfl
    split at hp
    ·rename_i sz x' hsz hx
     split at hp
     ·cases hp
     ·rename_i h0
      cases hp
      simp[cF.run] at hr
      split at hr
      ·rename_i lv sl ak i off hq
       rw[bQ hr]
       exact .quiet hs (xw hs ho ht hfl hsz h0 hx (.inl ⟨_,_,_,_,_,hq,rfl⟩))
      ·rename_i e off hq
       rw[bQ hr]
       exact .quiet hs (xw hs ho ht hfl hsz h0 hx (.inr ⟨_,_,hq,rfl⟩))
      ·cases hr
    ·cases hp
   ·cases hp
  ·cases hp
 | field t x f =>
  rw[ho] at hp
  simp[Fa] at hp
  split at hp
  ·rename_i fs ht
   split at hp
   ·rename_i fl hfl
    split at hp
    ·rename_i sz agg x' hsz Av hx
     split at hp
     ·rename_i h1
      cases hp
      simp[cF.run] at hr
      split at hr
      ·rename_i cs hq
       split at hr
       ·rename_i hle
        obtain⟨v,hv,hr⟩:=aV hr
        rw[bQ hr]
        exact .quiet hs (TM hs ho ht hfl hsz Av h1 hx hq hle hv)
       ·cases hr
      ·cases hr
     ·cases hp
    ·cases hp
   ·cases hp
  ·cases hp
 | indexAddr t x i =>
  rw[ho] at hp
  simp[Fa] at hp
  split at hp
  ·rename_i e ht
   split at hp
   ·rename_i sz x' i' hsz hx hi
    split at hp
    ·cases hp
    ·cases hp
     obtain⟨n,hn,hr'⟩:=aV hr
     clear hr;have hr:=hr';split at hr
     ·rename_i els hq
      split at hr
      ·rename_i el hel
       split at hr
       ·rename_i hlen
        rw[bQ hr]
        exact .quiet hs (oD hs ho ht hsz hx hi hn (.inl ⟨els,el,.inl hq,hel,hlen,rfl⟩))
       ·cases hr
      ·cases hr
     ·rename_i els ow hq
      split at hr
      ·rename_i el hel
       split at hr
       ·rename_i hlen
        rw[bQ hr]
        exact .quiet hs (oD hs ho ht hsz hx hi hn (.inl ⟨els,el,.inr ⟨_,hq⟩,hel,hlen,rfl⟩))
       ·cases hr
      ·cases hr
     ·rename_i lv sl ak off ln sz' hq
      split at hr
      ·rename_i hc
       obtain⟨hc1,rfl⟩:=hc
       rw[bQ hr]
       exact .quiet hs (oD hs ho ht hsz hx hi hn (.inr (.inl ⟨_,_,_,_,_,hq,hc1,rfl⟩)))
      ·cases hr
     ·rename_i lv sl ak off ln sz' hq
      split at hr
      ·rename_i hc
       obtain⟨hc1,rfl⟩:=hc
       rw[bQ hr]
       exact .quiet hs (oD hs ho ht hsz hx hi hn (.inr (.inr ⟨_,_,_,_,_,hq,hc1,rfl⟩)))
      ·cases hr
     ·cases hr
   ·cases hp
  ·rename_i n e ht
   split at hp
   ·rename_i sz x' i' hsz hx hi
    cases hp
    obtain⟨k,hk,hr⟩:=aV hr
    split at hr
    ·rename_i hkn
     split at hr
     ·rename_i lv sl ak j off hq
      rw[bQ hr]
      exact .quiet hs (Aw hs ho ht hsz hx hi hk hkn (.inl ⟨_,_,_,_,_,hq,rfl⟩))
     ·rename_i e off hq
      rw[bQ hr]
      exact .quiet hs (Aw hs ho ht hsz hx hi hk hkn (.inr ⟨_,_,hq,rfl⟩))
     ·cases hr
    ·cases hr
   ·cases hp
  ·cases hp
 | index t x i =>
  rw[ho] at hp
  simp[Fa] at hp
  split at hp
  ·rename_i n e ht
   split at hp
   ·rename_i sz agg x' i' hsz Av hx hi
    split at hp
    ·rename_i h1
     cases hp
     obtain⟨k,hk,hr⟩:=aV hr
     split at hr
     ·rename_i cs hq
      split at hr
      ·rename_i hc
       obtain⟨v,hv,hr⟩:=aV hr
       rw[bQ hr]
       exact .quiet hs (QZ hs ho ht hsz Av h1 hx hi hq hk hc.1 hc.2 hv)
      ·cases hr
     ·cases hr
    ·cases hp
   ·cases hp
  ·rename_i ht
   split at hp
   ·rename_i x' i' hx hi
    cases hp
    obtain⟨k,hk,hr⟩:=aV hr
    split at hr
    ·rename_i b hq
     split at hr
     ·rename_i c hc
      rw[bQ hr]
      exact .quiet hs (Q0 hs ho ht hx hi hq hk hc)
     ·cases hr
    ·cases hr
   ·cases hp
  ·cases hp
 | lookup t x k b =>
  cases b with
  |true=>rw[ho] at hp;cases hp
  | false =>
   rw[ho] at hp
   simp[Fa] at hp
   split at hp
   ·rename_i kt et ht
    split at hp
    ·rename_i m' x' hk hz hm hx
     cases hp
     simp[cF.run] at hr
     split at hr
     ·rename_i lv sl ak b h1 h2
      obtain⟨ks,h3,hr⟩:=aJ hr
      subst hr
      exact .quiet hs (aal hs ho ht hk hz hm hx h1 h2 h3)
     ·cases hr
    ·cases hp
   ·cases hp
 | mapUpdate t m k v =>
  rw[ho] at hp
  simp[Fa] at hp
  split at hp
  ·rename_i kt et ht
   split at hp
   ·rename_i m' x' hk hm hx
    cases hp
    simp[cF.run] at hr
    split at hr
    ·rename_i lv sl ak b h1 h2
     obtain⟨ks,h3,hr⟩:=aJ hr
     subst hr
     exact aam hs ho ht hk hm hx h1 h2 h3
    ·cases hr
   ·cases hp
  ·cases hp
 |mapEntry t m k=>rw[ho] at hp;cases hp
 |entryStore t m k v=>rw[ho] at hp;cases hp
 |range t x=>rw[ho] at hp;cases hp
 |next x b=>rw[ho] at hp;cases hp
 |entry x=>rw[ho] at hp;cases hp
 |typeAssert x t u b=>rw[ho] at hp;cases hp
 | extract x i =>
  rw[ho] at hp
  obtain⟨x',hx,rfl⟩:=aJ hp
  simp[cF.run] at hr
  split at hr
  ·rename_i vs hq
   obtain⟨v,hv,hr⟩:=aV hr
   rw[bQ hr]
   exact .quiet hs (Na hs ho hx hq hv)
  ·cases hr
 |call c=>
  rw[ho] at hp
  exact Uc cG ic hs hfr xL hdom ho hp hr
 |go c=>rw[ho] at hp;cases hp
 |defer c=>rw[ho] at hp;cases hp
 |panic x=>
  rw[ho] at hp
  cases hp
  simp[cF.run] at hr
 |send c x=>rw[ho] at hp;cases hp
 |recv t c b=>rw[ho] at hp;cases hp
 |select cs b=>rw[ho] at hp;cases hp
end
end Go.bK
namespace Go.bK
open Go
def kD(s:St)(k:Nat×Nat×Nat):Option bq×Option Unit:=if k.1=0then(aH s.mem k.2.1 k.2.2,none)else if k.1=1/\k.2.2=0then(none,s.aI.get? k.2.1)else(none,none)
def B4{s s':St}{lv sl:Nat}(h:kD s' (bU lv sl)=kD s (bU lv sl)):aH s'.mem lv sl=aH s.mem lv sl:=by simpa[kD,bU]using h
def aat{s s':St}{v:Nat}(h:kD s' (ku v)=kD s (ku v)):s'.aI.get? v=s.aI.get? v:=by simpa[kD,ku]using h
def cL(m m':List (Tr bq))(ks:List (Nat×Nat×Nat)):Prop:=∀lv sl,bU lv sl∈ks->aH m' lv sl=aH m lv sl
section
variable{m m':List (Tr bq)}
def nO{lv sl ak:Nat}(h:aH m' lv sl=aH m lv sl):rowAt m' lv sl ak=rowAt m lv sl ak:=by unfold rowAt;rw[h]
def nP{ks:List (Nat×Nat)}(h:cL m m' (jy ks)):eW m' ks=eW m ks:=List.map_congr_left λk hk=>by rw[h k.1 k.2 (i6.2 ⟨k,hk,rfl⟩)]
def nQ{lv sl ak:Nat}(h:aH m' lv sl=aH m lv sl):j3 m' lv sl ak=j3 m lv sl ak:=by unfold j3;rw[h]
def AF{lv sl ak:Nat}(h:aH m' lv sl=aH m lv sl):setAt m' lv sl ak=setAt m lv sl ak:=by unfold setAt;rw[h]
def Nt{row t t' d:Nat}:(vV row t d).2=(vV row t' d).2:=by grind[vV]
def iE{x:AV}(h:cL m m' (cV x)):dL m' x=dL m x:=by cases x with|ref lv sl ak off n sz=>simp[dL];grind[cV,cL,qJ]|d x=>cases x<;>rfl|_=>rfl
def jX{x:AV}(h:cL m m' (cV x)):gW m' x=gW m x:=by
 unfold gW;split;.rfl
 .exact iE h
def Ri{x:AV}(h:cL m m' (cV x)):BO m' x=BO m x:=by cases x with|ref lv sl ak off n sz=>simp[BO];rw[iE h]|own els o=>cases o<;>rfl|_=>rfl
def Ud{x:AV}{y:D}{ks:List (Nat×Nat)}(h:BO m x=some (y,ks))(hs:cL m m' (jy ks)):BO m' x=some (y,ks):=by cases x with
 |ref lv sl ak off n sz=>simp only[BO]at h⊢;cases he:dL m (.ref lv sl ak off n sz)with|none=>grind|some els=>rw[he]at h;cases h;rw[iE (m:=m) (λcy cU hk=>hs cy cU (by simpa[cV,jy]using hk)),he];rfl
 |own els o=>cases o<;>exact h|_=>exact h
def zm:∀{l:List AV}{ys:List D}{ks:List (Nat×Nat)},Fh m l=some (ys,ks)->cL m m' (jy ks)->Fh m' l=some (ys,ks)
 |[],_,_,h,_=>h|x::r,ys,ks,h,hs=>by
  simp[Fh]at h⊢;split at h;.rename_i y k ys' ks' h1 h2;cases h;rw[Ud h1 λlv sl hk=>hs lv sl (by simp only[jy,f9,bj]at hk⊢;exact .inl hk),zm h2 λlv sl hk=>hs lv sl (by simp only[jy,f9,bj]at hk⊢;exact .inr hk)]
  grind
def Nu{x:AV}{ys:List D}{ks:List (Nat×Nat)}(h:FH m x=some (ys,ks))(hs:cL m m' (jy ks)):FH m' x=some (ys,ks):=by unfold FH at h⊢;cases hc:cellsOf x with|none=>grind|some cs=>rw[hc]at h;exact zm h hs
def wv{s:Tr AV}{sz:Nat}:∀{ps:List (Nat×cu)}{els els':List (List D)}{ks:List (Nat×Nat)},qM m s sz els ps=some (els',ks)->cL m m' (jy ks)->qM m' s sz els ps=some (els',ks)
 |[],_,_,_,h,_=>h|(i,x)::r,els,els',ks,h,hs=>by
  simp[qM]at h⊢;split at h
  .rename_i e ks1 he;split at h
   .rename_i hc;split at h;.rename_i zh ks2 hf;cases h;rw[Nu he λlv sl hk=>hs lv sl (by simp[jy,f9,bj]at hk⊢;exact .inl hk)];simp[hc,and_self,i5];rw[wv hf λlv sl hk=>hs lv sl (by simp[jy,f9,bj]at hk⊢;exact .inr hk)]
    grind
   grind
  grind
def Kh{sz:Nat}{x:AV}(h:cL m m' (cV x)):sX m' sz x=sX m sz x:=by cases x with|ptr lv sl ak i off=>grind[cV,cL,sX]|_=>rfl
def Is{sz:Nat}{p v:AV}{e:fD}(h:rP m sz p v=some e)(hs:cL m m' e.rd):rP m' sz p v=some e:=by
 unfold rP at h⊢;split at h
 .rename_i lv sl ak i off new hc;have key:bU lv sl∈e.rd->aH m' lv sl=aH m lv sl:=λhk=>hs lv sl hk;split at h
  .split at h;.grind
   .rename_i v' els hg;split at h
    .rename_i h1;split at h
     .rename_i e' ds ks hi hd;split at h;.cases h;rw[zm hd λlv sl hk=>hs lv sl (ci _ hk)];have hfr:eW m' ks=eW m ks:=nP (m:=m) λlv sl hk=>hs lv sl (ci _ hk)<;>grind
      grind
     grind
    grind
   .cases h
   .cases h
   grind
  grind
 omega
def pe{x:AV}(h:cL m m' (cV x)):dA m' x=dA m x:=by cases x with|ref lv sl ak off n sz=>simp[dA];rw[iE h]|own els o=>cases o<;>rfl|fG f c=>cases c<;>rfl|_=>rfl
def tY{x:AV}(h:cL m m' (cV x)):fo m' x=fo m x:=by
 unfold fo;split;.rfl
 .rfl
 .rw[Ri h]
def oe:∀{l:List AV},cL m m' (l.flatMap cV)->gh m' l=gh m l|[],_=>rfl|x::r,h=>by simp[gh];rw[tY λlv sl hk=>h lv sl (by simp[hk]),oe λlv sl hk=>h lv sl (by simp only[eb,bj];exact .inr hk)]
def Nv{x:AV}(h:cL m m' (fH x)):y9 m' x=y9 m x:=by cases x with|agg cs=>simp[y9];rw[oe h]|_=>simp only[y9];rw[pe h]
def AG:∀{l:List AV},cL m m' (l.flatMap fH)->sS m' l=sS m l|[],_=>rfl|x::r,h=>by simp[sS];rw[Nv λlv sl hk=>h lv sl (by simp[hk]),AG λlv sl hk=>h lv sl (by simp only[eb,bj];exact .inr hk)]
end
section
variable{m:List (Tr bq)}
def Rj{x:AV}{y:D}{ks:List (Nat×Nat)}(h:BO m x=some (y,ks)):∀p∈ks,bU p.1 p.2∈cV x:=by cases x with
 |ref lv sl ak off n sz=>obtain⟨els,_,h⟩:=aJ h<;>grind[BO,bU,cV]|d x=>cases h;simp|own els o=>cases o<;>simp only[BO]at h<;>first|(injection h with h;injection h with _ h2;subst h2;simp)|cases h
 |_=>cases h
def tZ{x y:AV}{ks:List (Nat×Nat)}(h:fo m x=some (y,ks)):∀p∈ks,bU p.1 p.2∈cV x:=by
 unfold fo at h;split at h;.grind
 .grind
 .obtain⟨⟨z,k⟩,h1,h⟩:=aJ h;cases h;exact Rj h1
def og:∀{xs ys:List AV}{ks:List (Nat×Nat)},gh m xs=some (ys,ks)->∀p∈ks,bU p.1 p.2∈xs.flatMap cV
 |[],_,_,h=>by cases h;simp|x::r,_,_,h=>by
  simp[gh]at h;split at h
  .rename_i h1 h2;cases h;intro p hp;rw[eb,bj];rcases bj.1 hp with hp|hp;.exact .inl (tZ h1 p hp)
   .exact .inr (og h2 p hp)
  grind
def Nw{x y:AV}{ks:List (Nat×Nat)}(h:y9 m x=some (y,ks)):∀p∈ks,bU p.1 p.2∈fH x:=by
 have one:(dA m x).map (λy=>(y,([]:List (Nat×Nat))))=some (y,ks)->∀p∈ks,bU p.1 p.2∈fH x:=by simp_all
 cases x with|agg cs=>obtain⟨⟨ys,k⟩,h1,h⟩:=aJ h;cases h;exact og h1|_=>exact one h
def AH:∀{xs ys:List AV}{ks:List (Nat×Nat)},sS m xs=some (ys,ks)->∀p∈ks,bU p.1 p.2∈xs.flatMap fH
 |[],_,_,h=>by cases h;simp|x::r,_,_,h=>by
  simp[sS]at h;split at h
  .rename_i h1 h2;cases h;intro p hp;rw[eb,bj];rcases bj.1 hp with hp|hp;.exact .inl (Nw h1 p hp)
   .exact .inr (AH h2 p hp)
  grind
end
def C2(s s':St):hU->Prop|.bT e=>(xm (.bT e)=true->s'.mem.length=s.mem.length)/\∀k∈e.rd,kD s' k=kD s k|.all _ _ _ _ kp _=>j8 s'.mem kp=j8 s.mem kp/\s'.aI=s.aI/\s'.nv=s.nv
def C2.mem{s s':St}{e:fD}(h:C2 s s' (.bT e)):cL s.mem s'.mem e.rd:=λ_ _ hk=>B4 (h.2 _ hk)
section
variable{call:Call}{sh:Nat->Bool}{s s':St}{row d aP:Nat}
def vj{l:List cu}(h:∀x∈l,x.ev s'.slots=x.ev s.slots):As s'.slots l=As s.slots l:=List.map_congr_left h
def lP{x:Option cu}{n:Nat}(h:∀y∈x.toList,y.ev s'.slots=y.ev s.slots):gn x s'.slots n=gn x s.slots n:=by cases x with|none=>rfl|some y=>grind[cu.ev,gn]
def ua:∀{ps:List (Nat×Nat×cu)}{cs:List AV},(∀x∈ps.map (·.2.2),x.ev s'.slots=x.ev s.slots)->qL s'.slots cs ps=qL s.slots cs ps
 |[],_,_=>rfl|(off,sz,x)::r,cs,h=>by
  simp[qL];rw[h x (by simp)];split
  .split;.exact ua λy hy=>h y (by simp only[f1,dj];exact .inr hy)
   .rfl
  .rfl
def AI{m:List (Tr bq)}{sz:Nat}:∀{ps:List (Nat×cu)}{els:List (List D)},(∀x∈ps.map (·.2),x.ev s'.slots=x.ev s.slots)->qM m s'.slots sz els ps=qM m s.slots sz els ps
 |[],_,_=>rfl|(i,x)::r,els,h=>by
  simp[qM];rw[h x (by simp)];split
  .split;.rw[AI λy hy=>h y (by simp only[f1,dj];exact .inr hy)]
   .rfl
  .rfl
def lQ{v:AV}{u:Nat×Nat×Option bq}{us:List (Nat×Nat×Option bq)}{t:List (Nat×Bool)}{rd:List (Nat×Nat×Nat)}:xm (.bT {val:=v,dn:=u::us,cR:=t,rd:=rd})=true:=by cases rd<;>rfl
def Rk{v:AV}{u:Nat×Nat×Option bq}{us:List (Nat×Nat×Option bq)}{t:List (Nat×Bool)}{rd:List (Nat×Nat×Nat)}:xm (.bT {val:=v,dn:=us++[u],cR:=t,rd:=rd})=true:=by simp_all[xm]
def qB{rw:Bool}{lv cy sl sz bytes:Nat}{x y:AV}{e:fD}(h:ew s rw lv sl aP sz bytes x y=some e)(hl:xm (.bT e)=true->cy=lv)(hk:∀k∈e.rd,kD s' k=kD s k):ew s' rw cy sl aP sz bytes x y=some e:=by
 have Im:cL s.mem s'.mem e.rd:=λ_ _ h=>B4 (hk _ h);unfold ew at h⊢;split at h;.cases h
 .rename_i news hn;split at h
  .rename_i hall;split at h
   .split at h
    .rename_i hc;split at h;.cases h;rw[jX (m:=s.mem) Im,hn]<;>grind
     .split at h;.cases h
      .rename_i hne;cases h;rw[jX (m:=s.mem) Im,hn];simp only[hall,i5];rw[ba hc,be hne,hl lQ]
    grind
   .split at h;.rename_i hc;cases h;rw[jX (m:=s.mem) λlv sl hk=>Im lv sl (ci _ hk),hn];simp only[hall,i5];rw[ba (by rw[aat (hk _ (ca ..))];exact hc)]
    grind
   .split at h
    .rename_i els hr;split at h;.cases h;rw[jX (m:=s.mem) λlv sl hk=>Im lv sl (ci _ hk)];rw[nO (Im _ _ (ca ..)),hr]<;>grind
     grind
    grind
   grind
  grind
def xO{m m':List (Tr bq)}{sz:Nat}{y:AV}(h:cL m m' (cV y)):oa m' sz y=oa m sz y:=by cases y with|dx lv sl ak off n sz'=>simp only[oa];rw[nQ (h _ _ (ca ..))]|_=>simp only[oa];rw[iE h]
def vN{lv cy sl sz bytes:Nat}{x y:AV}{e:fD}(h:kH s lv sl aP sz bytes x y=some e)(hl:xm (.bT e)=true->cy=lv)(hk:∀k∈e.rd,kD s' k=kD s k):kH s' cy sl aP sz bytes x y=some e:=by
 have Im:cL s.mem s'.mem e.rd:=λ_ _ h=>B4 (hk _ h);unfold kH at h⊢;split at h;.cases h
 .rename_i new hc;split at h;.cases h
  .rename_i hz;split at h
   .split at h;.rename_i hq;injection h with h;subst h;rw[xO Im,hc];simp only[hz];rw[ba hq,hl lQ]
    .cases h
   .split at h
    .rename_i cs hb;split at h;.rename_i hq;injection h with h;subst h;rw[xO λlv sl hk=>Im lv sl (ci _ hk),hc];simp only[hz];rw[nQ (Im _ _ (ca ..)),hb];simp only;rw[ba hq]
     .cases h
    .cases h
   .cases h
def C3{x:AV}{e:fD}(h:nF s aP x=some e)(hk:∀k∈e.rd,kD s' k=kD s k):nF s' aP x=some e:=by
 unfold nF at h⊢;split at h;.exact h
 .split at h
  .obtain⟨zs,hz,h⟩:=aV h;split at h;.cases h<;>simp_all[kD,bU,jr,j5,tF,rowAt]
   grind
  grind
 omega
def Nx{row lv cy d:Nat}{x:AV}(hl:xm (.bT (BP row lv d aP x))=true->cy=lv):BP row cy d aP x=BP row lv d aP x:=by unfold BP at hl⊢<;>grind[xm,BP]
def Ki{x:AV}{e:fD}(h:Au s x=some e)(hk:∀k∈e.rd,kD s' k=kD s k):Au s' x=some e:=by
 unfold Au at h⊢;split at h;.exact h
 .split at h
  .rename_i els hr;obtain⟨zs,hz,h⟩:=aV h;split at h;.cases h;rw[nO (m:=s.mem) (B4 (hk _ (ca ..))),hr]<;>omega
   grind
  grind
 omega
def Ny{sz l:Nat}{hi:Option Nat}{x:AV}{e:fD}(h:JN s aP sz x l hi=some e)(hk:∀k∈e.rd,kD s' k=kD s k):JN s' aP sz x l hi=some e:=by
 unfold JN at h⊢;split at h
 .split at h
  .split at h;.cases h<;>simp_all[kD,bU,rowAt]
   grind
  grind
 omega
section
variable{cm:List (Tr bq)}{top pk lv cy sl ak:Nat}
def vO{k:Nat}{x y:AV}(h:bE cm top pk k lv sl ak x=some (y,[])):bE cm top pk k cy sl ak x=some (y,[]):=by cases x with
 |ref a b c off len sz=>
  simp[bE]at h⊢;split at h;.exact h
  .split at h<;>grind|own els o=>cases o with|full=>simp[bE]at h⊢<;>grind|cR v tz=>exact h|_=>exact h
 |fG f c=>cases c<;>exact h|_=>exact h
def uc:∀{l ys:List AV}{k:Nat},dM cm top pk lv sl ak k l=some (ys,[])->dM cm top pk cy sl ak k l=some (ys,[])
 |[],_,_,h=>h|x::r,ys,k,h=>by
  simp[dM]at h⊢;split at h;.rename_i y u ys' us h1 h2;simp at h;obtain⟨rfl,rfl,rfl⟩:=h;rw[vO h1,uc h2];rfl
  grind
def C4{k:Nat}{x y:AV}(h:lH cm top pk lv sl ak k x=some (y,[])):lH cm top pk cy sl ak k x=some (y,[]):=by cases x with
 |agg cs=>simp only[lH]at h⊢;cases hc:dM cm top pk lv sl ak k cs with|none=>grind|some p=>obtain⟨a,b⟩:=p;rw[hc]at h;cases h;rw[uc hc];rfl
 |_=>simp only[lH]at h⊢;exact vO h
def xP:∀{l ys:List AV}{k:Nat},fT cm top pk lv sl ak k l=some (ys,[])->fT cm top pk cy sl ak k l=some (ys,[])
 |[],_,_,h=>h|x::r,ys,k,h=>by
  simp[fT]at h⊢;split at h;.rename_i y u ys' us h1 h2;simp at h;obtain⟨rfl,rfl,rfl⟩:=h;rw[C4 h1,xP h2];rfl
  grind
def Nz{x y:AV}(h:gU cm top pk lv sl ak x=some (y,[])):gU cm top pk cy sl ak x=some (y,[]):=by cases x with
 |fk cs=>simp only[gU]at h⊢;cases hc:fT cm top pk lv sl ak 1 cs with|none=>grind|some p=>obtain⟨a,b⟩:=p;rw[hc]at h;cases h;rw[xP hc];rfl
 |_=>simp only[gU]at h⊢;exact C4 h
end
section
variable{m m':List (Tr bq)}
def AJ{x:AV}(h:cL m m' (cV x)):jh m' x=jh m x:=by cases x with|ref lv sl ak off n sz=>simp[jh];rw[iE h]|_=>rfl
def oG{f g:AV->Option D}:∀{l:List AV},(∀x∈l,g x=f x)->kQ g l=kQ f l|[],_=>rfl|x::r,h=>by simp only[kQ];rw[h x (by simp),oG λy hy=>h y (ci _ hy)]
def nq{f g:AV->List (Nat×Nat×Nat)}:∀{l:List AV},(∀x∈l,g x=f x)->l.flatMap g=l.flatMap f|[],_=>rfl|x::r,h=>by simp only[eb];rw[h x (by simp),nq λy hy=>h y (ci _ hy)]
def iF:∀(k:Nat){x:AV},cL m m' (qx m k x)->lI m' k x=lI m k x/\qx m' k x=qx m k x|0,x,h=>⟨AJ h,rfl⟩|k+1,x,h=>by cases x with
 |dx lv sl ak off n sz=>have hb:=nQ (ak:=ak) (h lv sl (by simp[qx]));cases hq:j3 m lv sl ak with|none=>exact⟨by simp only[lI,hb,hq],by simp only[qx,hb,hq]⟩|some cs=>
  have hc:∀x∈cs,cL m m' (qx m k x):=λx hx cy cU hk=>h cy cU (by simp only[qx,hq,dj];exact .inr (nl.2 ⟨x,hx,hk⟩));refine⟨?_,?_⟩;.simp only[lI,hb,hq];rw[oG λx hx=>(iF k (hc x (pm (ls hx)))).1]
  .simp only[qx,hb,hq];rw[nq λx hx=>(iF k (hc x hx)).2]
 |_=>simp only[lI,qx]at h⊢;exact⟨AJ h,trivial⟩
def NA{x:AV}(h:cL m m' (nE m x)):kz m' x=kz m x/\nE m' x=nE m x:=by cases x with
 |agg cs=>have hc:∀x∈cs,cL m m' (qx m 2 x):=λx hx cy cU hk=>h cy cU (by simp only[nE];exact nl.2 ⟨x,hx,hk⟩);exact⟨by simp only[kz];rw[oG λx hx=>(iF 2 (hc x hx)).1],by simp only[nE];rw[nq λx hx=>(iF 2 (hc x hx)).2]⟩|fG f c=>cases c<;>exact⟨rfl,rfl⟩|dx lv sl ak off n sz=>obtain⟨h1,h2⟩:=iF 2 (x:=.dx lv sl ak off n sz) h;exact⟨by simp only[kz];rw[h1],by simp only[nE];rw[h2]⟩|ptr lv sl ak i off=>have hb:=nQ (ak:=ak) (h lv sl (by simp[nE]));cases hq:j3 m lv sl ak with|none=>exact⟨by simp only[kz,hb,hq],by simp only[nE,hb,hq]⟩|some cs=>
  have hc:∀x∈cs,cL m m' (qx m 2 x):=λx hx cy cU hk=>h cy cU (by simp only[nE,hq,dj];exact .inr (nl.2 ⟨x,hx,hk⟩));refine⟨?_,?_⟩;.simp only[kz,hb,hq];cases Nat.beq i 0with|true=>simp only;rw[oG λx hx=>(iF 2 (hc x hx)).1]|false=>rfl
  .simp only[nE,hb,hq];rw[nq λx hx=>(iF 2 (hc x hx)).2]
 |ref lv sl ak off n sz=>obtain⟨h1,h2⟩:=iF 2 (x:=.ref lv sl ak off n sz) h;exact⟨by simp only[kz];rw[h1],by simp only[nE];rw[h2]⟩|_=>exact⟨rfl,rfl⟩
def AK:∀{l:List AV},cL m m' (l.flatMap (nE m))->xl m' l=xl m l/\l.flatMap (nE m')=l.flatMap (nE m)|[],_=>⟨rfl,rfl⟩|x::r,h=>by obtain⟨h1,h2⟩:=NA (x:=x) λlv sl hk=>h lv sl (by simp[hk]);obtain⟨h3,h4⟩:=AK (l:=r) λlv sl hk=>h lv sl (by simp only[eb,bj];exact .inr hk)<;>grind[kz,cL,nE,xl]
end
def xQ{f:Nat}{args:List AV}{r:hU}(h:lJ call s f args=some r)(hn:C2 s s' r):lJ call s' f args=some r:=by
 unfold lJ at h;split at h;.cases h
 .split at h;.cases h
  .split at h;case h_2=>cases h
   split at h;case h_2=>cases h
   cases h;obtain⟨h1,h2⟩:=AK (m:=s.mem) (m':=s'.mem) (l:=args) hn.mem;unfold lJ<;>grind
def rW{shd:Bool}{f:Nat}{args:List AV}{r:hU}{lv cy:Nat}(h:gV call shd row s lv d aP f args=some r)(hn:C2 s s' r)(hlv:s'.mem.length=s.mem.length->cy=lv):gV call shd row s' cy d aP f args=some r:=by
 unfold gV at h⊢;cases shd with|false=>
  simp at h⊢;split at h;.cases h
  .rename_i aK ks hl;split at h;.cases h
   .rename_i r' cm _ _ hc;split at h;.cases h
    .rename_i v us hi;split at h;.cases h
     .rename_i u hu;cases h;have hks:cL s.mem s'.mem (jy ks):=λlv sl hk=>hn.mem lv sl (by obtain⟨p,hp,he⟩:=i6.1 hk;rw[<-he];exact AH hl p hp);rw[AG (m:=s.mem) hn.mem,hl];simp[hc,nP hks];have hlen:eW s.mem ks++u≠[]->s'.mem.length=s.mem.length:=λhne=>hn.1 (by simp only[xm];cases hz:eW s.mem ks++u with|nil=>exact absurd hz hne|cons a b=>simp);by_cases hus:us=[];.subst hus;rw[Nz hi];cases hu;rfl
      .have hlen:=hlen (by
       unfold j9 at hu;split at hu;.exact absurd rfl hus
       .injection hu with hu;subst hu;simp
       .cases hu);rw[hlv hlen,hi];simp only[hu]|true=>
  simp at h⊢;split at h;.cases h
  .split at h;.cases h
   .rename_i r' cm ts n hc;split at h;.cases h
    .rename_i v us hi;split at h;.cases h
     .rename_i u hu;injection h with h;subst h;obtain⟨h1,h2,h3⟩:=hn;have h1:s'.mem=s.mem:=h1;rw[hlv (by rw[h1]),h1,h2,h3,hc];simp only[hi,hu]
def It{f:Nat}{args:List AV}{r:hU}(h:rO call s f args=some r)(hn:C2 s s' r):rO call s' f args=some r:=by
 unfold rO at h⊢;split at h;.cases h
 .split at h;.cases h
  .rename_i r' cm ts n hc;injection h with h;subst h;obtain⟨h1,h2,h3⟩:=hn;have h1:s'.mem=s.mem:=h1;rw[h1,h2,h3,hc]
def Kj{m m':List (Tr bq)}{kp:List (Nat×Nat)}(h:j8 m' kp=j8 m kp):m'.length=m.length:=by rw[<-tW m' kp,<-tW m kp,h]
def xR{kp kp' kr:List (Nat×Nat)}{lv cy:Nat}{f:Nat}{args:List AV}{r:hU}(h:qw call row kp kr s lv d aP f args=some r)(hn:C2 s s' r)(hlv:s'.mem.length=s.mem.length->cy=lv/\kp'=kp):qw call row kp' kr s' cy d aP f args=some r:=by
 unfold qw at h⊢;split at h;.cases h
 rename_i ha;split at h;.cases h
 rename_i r' cm ts n hc;split at h;.cases h
 rename_i v us hi;split at h;.cases h
 rename_i u hu;split at h;case h_2=>cases h
 rename_i hok;injection h with h;subst h;obtain⟨h1,h2,h3⟩:=hn;have hlen:=Kj h1;rw[(hlv hlen).1,(hlv hlen).2,h1,h2,h3,hc,hlen];simp only[hi,hu,hok]
def gy{d:Nat}(h:s'.mem.length=s.mem.length):gZ s'.mem.length d=gZ s.mem.length d:=by unfold gZ;rw[h]
def NB{m m':List (Tr bq)}{x:AV}(h:cL m m' (fH x)):za m' x=za m x:=by cases x with|agg cs=>simp[za];rw[oe h]|_=>simp only[za];rw[tY h]
def AM{m m':List (Tr bq)}:∀{l:List AV},cL m m' (l.flatMap fH)->sU m' l=sU m l|[],_=>rfl|x::r,h=>by simp[sU];rw[NB λlv sl hk=>h lv sl (by simp[hk]),AM λlv sl hk=>h lv sl (by simp only[eb,bj];exact .inr hk)]
def NC{m:List (Tr bq)}{x y:AV}{ks:List (Nat×Nat)}(h:za m x=some (y,ks)):∀p∈ks,bU p.1 p.2∈fH x:=by cases x with|agg cs=>obtain⟨⟨ys,k⟩,h1,h⟩:=aJ h;cases h;exact og h1|_=>simp only[za]at h;exact tZ h
def AN{m:List (Tr bq)}:∀{xs ys:List AV}{ks:List (Nat×Nat)},sU m xs=some (ys,ks)->∀p∈ks,bU p.1 p.2∈xs.flatMap fH
 |[],_,_,h=>by cases h;simp|x::r,_,_,h=>by
  simp[sU]at h;split at h
  .rename_i h1 h2;cases h;intro p hp;rw[eb,bj];rcases bj.1 hp with hp|hp;.exact .inl (NC h1 p hp)
   .exact .inr (AN h2 p hp)
  grind
def Iu{f:Nat}{args:List AV}{r:hU}(h:oT call s aP f args=some r)(hn:C2 s s' r):oT call s' aP f args=some r:=by
 unfold oT at h⊢;split at h;.cases h
 .rename_i aK ks hl;split at h;.cases h
  .rename_i r' cm _ _ hc;split at h;.rename_i v hi;cases h;have hm:=hn.mem;rw[AM hm,hl];simp[hc,hi];rw[nP (m:=s.mem) (m':=s'.mem) λlv sl hk=>hm lv sl ?_];obtain⟨p,hp,he⟩:=i6.1 hk;exact he▸AN hl p hp
   grind
def xS{m m':List (Tr bq)}:∀{l:List AV},cL m m' (l.flatMap cV)->qv m' l=qv m l|[],_=>rfl|x::r,h=>by simp[qv];rw[pe λlv sl hk=>h lv sl (by simp[hk]),xS λlv sl hk=>h lv sl (by simp only[eb,bj];exact .inr hk)]
def Kk{m m':List (Tr bq)}{x:AV}(h:cL m m' (fH x)):sW m' x=sW m x:=by cases x with|agg cs=>simp[sW];rw[xS h]|_=>simp only[sW];rw[pe h]
def xT{m m':List (Tr bq)}:∀{l:List AV},cL m m' (l.flatMap fH)->rN m' l=rN m l|[],_=>rfl|x::r,h=>by simp[rN];rw[Kk λlv sl hk=>h lv sl (by simp[hk]),xT λlv sl hk=>h lv sl (by simp only[eb,bj];exact .inr hk)]
def Iv{f:Nat}{args:List AV}{r:hU}(h:oU call s aP f args=some r)(hn:C2 s s' r):oU call s' aP f args=some r:=by
 unfold oU at h⊢;split at h;.cases h
 .rename_i aK hl;split at h;.cases h
  .split at h;.cases h;have hm:=hn.mem;rw[xT hm,hl]<;>grind
   grind
def Rl{op:cF}{r:hU}(h:op.run call sh s row d aP=some r)(hs:∀x∈op.jx,x.ev s'.slots=x.ev s.slots)(hn:C2 s s' r):op.run call sh s' row d aP=some r:=by cases op with
 |alloc z=>simp only[cF.run]at h⊢;injection h with h;subst h;rw[gy (hn.1 lQ)]|box x=>
  simp only[cF.jx,dj,dC,km,ma]at hs;simp only[cF.run,hs]at h⊢;split at h;.obtain⟨cs,hcs,rfl⟩:=aJ h;rw[hcs,hn.1 lQ];rfl
  split at h;.exact h
  obtain⟨cs,hcs,rfl⟩:=aJ h;rw[hcs,gy (hn.1 lQ)];rfl|makeSlice sz b z x y=>
  simp only[cF.jx,dj,dC,km,j1,ma]at hs;simp only[cF.run,hs.1,hs.2]at h⊢;split at h
  .split at h;.rename_i hc;injection h with h;subst h;rw[ba hc,gy (hn.1 lQ)]
   .cases h
  .cases h|build z ps=>simp only[cF.run]at h⊢;rw[ua hs];exact h|buildSlice sz n z ps=>simp only[cF.run]at h⊢;cases qA:Nat.beq row 2with
  |true=>
   rw[qA]at h;simp only at h⊢;split at h;.cases h
   .cases hf:qL s.slots ((List.replicate n z).flatten.map .d) (ps.map λp=>(p.1*sz,sz,p.2))with|none=>rw[hf]at h;cases h|some cs=>rw[hf]at h;simp only[cf,dT]at h;subst h;rw[ua (s:=s) (λx hx=>hs x (by simp only[px]at hx;exact hx)),hf,gy (hn.1 lQ)];rfl
  |false=>
  rw[qA]at h;simp only at h⊢;rw[AI hs];split at h;.cases h
  .rename_i els ks hf;split at h;.injection h with h;subst h;rw[wv hf hn.mem];simp only[nP (m:=s.mem) hn.mem]
   .split at h;.cases h
    .rename_i hk;injection h with h;subst h;rw[wv hf hn.mem];simp only[nP (m:=s.mem) hn.mem];rw[gy (hn.1 Rk),be hk]
 |load sz agg x=>simp only[cF.jx,dj,dC,km,ma]at hs;simp only[cF.run,hs]at h⊢;obtain⟨cs,hcs,h⟩:=aV h;obtain⟨v,hv,rfl⟩:=aJ h;rw[Kh (m:=s.mem) hn.mem,hcs];simp only[ae,hv,cf]|store sz x y=>simp only[cF.jx,dj,dC,km,j1,ma]at hs;simp only[cF.run,hs.1,hs.2]at h⊢;obtain⟨e,he,rfl⟩:=aJ h;rw[Is he hn.mem];rfl|append sz b x y=>
  simp only[cF.jx,dj,dC,km,j1,ma]at hs;simp only[cF.run,hs.1,hs.2]at h⊢;split at h;.obtain⟨e,he,rfl⟩:=aJ h;rw[vN he (λhl=>by rw[gy (hn.1 hl)]) hn.2];rfl
  obtain⟨e,he,rfl⟩:=aJ h;rw[Nt (t':=gZ s.mem.length d),qB he (λhl=>by rw[gy (hn.1 hl)]) hn.2];rfl|mkSet=>simp only[cF.run]at h⊢;injection h with h;subst h;rw[gy (hn.1 lQ)]|b2s x=>simp only[cF.jx,dj,dC,km,ma]at hs;simp only[cF.run,hs]at h⊢;obtain⟨els,hel,h⟩:=aV h;obtain⟨l,hl,rfl⟩:=aJ h;rw[iE (m:=s.mem) hn.mem,hel];simp only[ae,hl,cf]|JK x y=>
  simp only[cF.jx,dj,dC,km,j1,ma]at hs;simp only[cF.run,hs.1,hs.2]at h⊢;split at h;.rename_i lv sl ak b h1 h2;obtain⟨ks,hk,rfl⟩:=aJ h;rw[AF (hn.mem _ _ (ca ..)),hk];rfl
  .cases h|JL x y=>
  simp only[cF.jx,dj,dC,km,j1,ma]at hs;simp only[cF.run,hs.1,hs.2]at h⊢;split at h;.rename_i lv sl ak b h1 h2;obtain⟨ks,hk,rfl⟩:=aJ h;rw[AF (hn.mem _ _ (ca ..)),hk];rfl
  .cases h|pZ sz b z x n=>
  simp only[cF.jx,dj,dC,km,j1,ma]at hs;simp only[cF.run,hs.1,hs.2]at h⊢;obtain⟨k,hk,h⟩:=aV h;simp only[hk,ae];split at h;.rename_i hc;rw[ba hc];obtain⟨e,he,rfl⟩:=aJ h;rw[qB he (λhl=>by rw[gy (hn.1 hl)]) hn.2];rfl
  .cases h|JI x=>
  simp only[cF.jx,dj,dC,km,ma]at hs;simp only[cF.run,hs]at h⊢;split at h
  .obtain⟨E,hE,rfl⟩:=aJ h;unfold JO at hE⊢;split at hE
   .rename_i cy cU ak off len sz he;split at hE
    .rename_i els hr;split at hE;.rename_i hb;injection hE with hE;subst hE;rw[nO (hn.mem _ _ (ca ..)),hr];simp only[hb];rw[gy (hn.1 lQ)];rfl
     .cases hE
    .cases hE
   .cases hE
  .injection h with h;subst h;rw[Nx λhl=>by rw[gy (hn.1 hl)]]|compact x=>simp only[cF.jx,dj,dC,km,ma]at hs;simp only[cF.run,hs]at h⊢;obtain⟨e,he,rfl⟩:=aJ h;rw[C3 he hn.2];rfl|sort x=>simp only[cF.jx,dj,dC,km,ma]at hs;simp only[cF.run,hs]at h⊢;obtain⟨e,he,rfl⟩:=aJ h;rw[Ki he hn.2];rfl|clone sz b x=>
  simp only[cF.jx,dj,dC,km,ma]at hs;simp only[cF.run,hs]at h⊢;split at h;.obtain⟨e,he,rfl⟩:=aJ h;rw[vN he (λhl=>by rw[gy (hn.1 hl)]) hn.2];rfl
  split at h
  .rename_i els hq;obtain⟨e,he,rfl⟩:=aJ h;rw[qB he (λhl=>by rw[gy (hn.1 hl)]) hn.2];have:∃els,dL s'.mem (x.ev s.slots)=some els:=by
    refine⟨els,?_⟩;rw[iE (m:=s.mem) λlv sl hk=>hn.mem lv sl ?_,hq];unfold ew at he;split at he;.cases he
    .split at he
     .simp only at he;split at he
      .split at he;.injection he with he;subst he;exact hk
       .split at he;.cases he
        .injection he with he;subst he;exact hk
      .cases he
     .cases he
   obtain⟨els',h'⟩:=this;rw[h'];rfl
  .cases h|copy sz x y=>
  simp only[cF.jx,dj,dC,km,j1,ma]at hs;simp only[cF.run,hs.1,hs.2]at h⊢;split at h
  .rename_i lv sl ak off n sz' news hx hy;split at h
   .rename_i cs hb;split at h;.rename_i hc;injection h with h;subst h;have hm:=hn.mem;rw[jX (m:=s.mem) λlv sl hk=>hm lv sl (ci _ hk),hy,hx];simp only;rw[nQ (hm _ _ (ca ..)),hb];simp only;rw[ba hc]
    .cases h
   .cases h
  .rename_i lv sl ak off n sz' news hx hy;split at h
   .rename_i cs hb;split at h;.rename_i hc;injection h with h;subst h;have hm:=hn.mem;rw[jX (m:=s.mem) λlv sl hk=>hm lv sl (ci _ hk),hy,hx];simp only;rw[nO (hm _ _ (ca ..)),hb];simp only;rw[ba hc]
    .cases h
   .cases h
  .cases h|clear sz z x=>
  simp only[cF.jx,dj,dC,km,ma]at hs;simp only[cF.run,hs]at h⊢;split at h
  .split at h
   .rename_i els hr;split at h;.rename_i hc;injection h with h;subst h;rw[nO (hn.mem _ _ (ca ..)),hr];simp only;rw[ba hc]
    .cases h
   .cases h
  .cases h|call f args=>simp only[cF.run]at h⊢;rw[vj (l:=args) hs];cases hk:Nat.ble 1099511627776 row with|true=>rw[hk]at h;exact xR h hn λhl=>⟨gy hl,by rw[hl]⟩|false=>rw[hk]at h;simp only at h⊢;cases h7:Nat.beq row 7with|true=>rw[h7]at h;exact xQ h hn|false=>cases h8:Nat.beq row 8with|true=>rw[h7,h8]at h;exact It h hn|false=>cases h9:Nat.beq row 9with|true=>rw[h7,h8,h9]at h;exact Iu h hn|false=>cases ZO:Nat.beq row 10with|true=>rw[h7,h8,h9,ZO]at h;exact Iv h hn|false=>rw[h7,h8,h9,ZO]at h;exact rW h hn λhl=>gy hl
 |xk f args=>simp only[cF.run]at h⊢;rw[vj (l:=args) hs];cases hk:Nat.ble 1099511627776 row with|true=>rw[hk]at h;exact xR h hn λhl=>⟨gy hl,by rw[hl]⟩|false=>rw[hk]at h;simp only at h⊢;cases hsf:sh f with|true=>rw[hsf]at h;exact rW h hn λhl=>gy hl|false=>rw[hsf]at h;exact xQ h hn
 |Ar x args=>
  simp only[cF.jx,dj,j1]at hs;simp only[cF.run,hs.1]at h⊢;split at h;.rw[vj hs.2];exact rW h hn λhl=>gy hl
  .cases h|makeFunc f args=>simp only[cF.run]at h⊢;rw[vj (l:=args) hs];exact h|slice sz x a b c=>
  simp only[cF.jx,dj,bj,j1]at hs;simp only[cF.run,hs.1]at h⊢;rw[lP λy hy=>hs.2 y (.inl (.inl hy)),lP λy hy=>hs.2 y (.inl (.inr hy)),lP λy hy=>hs.2 y (.inr hy)];split at h
  .split at h;.obtain⟨e,he,rfl⟩:=aJ h;rw[Ny he hn.2];rfl
   .exact h
  .cases h|rM x a b=>
  simp only[cF.jx,dj,bj,j1]at hs;simp only[cF.run,hs.1]at h⊢;split at h;.rw[lP λy hy=>hs.2 y (.inl hy),lP λy hy=>hs.2 y (.inr hy)];exact h
  .cases h|Fg n=>exact h|bad=>exact h|pick a b c=>simp only[cF.jx,dj,dC,km,j1,ma]at hs;simp only[cF.run,hs.1,hs.2.1,hs.2.2]at h⊢;exact h|nilCheck x|Aq _ x|un _ x|conv _ x|field _ _ _ x|fieldAddr _ x|extract x _|len x|HK x|JJ x|s2b x|sliceB _ _ x|tC _ _ _ x=>simp only[cF.jx,dj,dC,km,ma]at hs;simp only[cF.run,hs]at h⊢;exact h|bin _ x y|ZZ _ x y|QV _ _ _ x y|indexAddr _ x y|lG _ _ x y|rK _ _ _ x y|rL x y|HL x y|HM x y|grow _ x y=>simp only[cF.jx,dj,dC,km,j1,ma]at hs;simp only[cF.run,hs.1,hs.2]at h⊢;exact h
end
end Go.bK
