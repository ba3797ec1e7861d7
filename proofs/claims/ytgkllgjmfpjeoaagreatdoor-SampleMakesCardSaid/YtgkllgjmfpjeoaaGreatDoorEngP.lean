/- slices.Sort of whole numbers: met by what it does. -/
import Derived.Test.YtgkllgjmfpjeoaaGreatDoorEngO
set_option linter.unusedVariables false
set_option linter.unusedSimpArgs false
namespace Go.bJ
open Go Go.RowKit
structure Mi(w w':World)(b off:Nat)(zs:List Int):Prop where
 os:w'.os=w.os
 tape:w'.tape=w.tape
 output:w'.output=w.output
 size:w.heap.size<=w'.heap.size
 other:∀k,k<w.heap.size->k≠b->w'.heap[k]?=w.heap[k]?row:∀C e,w.heap[b]?=some (.cells C e (0,0))->∃C',w'.heap[b]?=some (.cells C' e (0,0))/\C'.size=C.size/\∀j z,zs[j]?=some z->C'[off+j]?=some (.int .i64 z)
structure J1(P:Program)(f:Nat):Prop where
 fn:∃fn,P.funcs[f]?=some fn/\fn.body.isSome=true/\(fn.name== "runtime.NumGoroutine")=false
 empty:∀p cap w,Calls P f #[.slice p 0 cap] w λe w'=>e=.returned (.tuple #[])/\w'=w
 rows:∀b off cap zs w C e,w.heap[b]?=some (.cells C e (0,0))->(∀(j:Nat)z,zs[j]?=some z->C[off+j]?=some (.int .i64 z))->0<zs.length->zs.length<4611686018427387904->Calls P f #[.slice (some ⟨b,off,none⟩) zs.length cap] w λe w'=>e=.returned (.tuple #[])/\Mi w w' b off (jm zs)
structure wS(P:Program)(f:Nat):Prop where
 fn:∃fn,P.funcs[f]?=some fn/\fn.body.isSome=true/\(fn.name== "runtime.NumGoroutine")=false
 empty:∀p cap w,Calls P f #[.slice p 0 cap] w λe w'=>e=.returned (.slice p 0 cap)/\w'=w
 rows:∀b off cap zs w C e,w.heap[b]?=some (.cells C e (0,0))->(∀(j:Nat)z,zs[j]?=some z->C[off+j]?=some (.int .i64 z))->0<zs.length->zs.length<4611686018427387904->zs.length<=cap->Calls P f #[.slice (some ⟨b,off,none⟩) zs.length cap] w λe w'=>e=.returned (.slice (some ⟨b,off,none⟩) (jo zs).length cap)/\Mi w w' b off (jo zs)
structure kP(P:Program)(f T:Nat):Prop where
 clone:T≠1000000->T≠1000001->Fi P f T
 sort:T=1000000->J1 P f
 compact:T=1000001->wS P f
theorem rG:∀{els:List (List D)}{zs:List Int},rj els=some zs->els=iB zs
 |[],zs,h=>by cases h;rfl|e::r,zs,h=>by
  unfold rj at h;split at h;.grind
  .rename_i z r' h1;cases h1;obtain⟨y,hy,rfl⟩:=Option.map_eq_some_iff.1 h;rw[rG hy];rfl
  grind
theorem x8(x:Int):∀l,(z8 x l).length=l.length+1
 |[]=>rfl|y::r=>by
  unfold z8;split;.rfl
  .rw[List.length_cons,x8 x r];rfl
theorem mT:∀l,(jm l).length=l.length|[]=>rfl|x::r=>by rw[jm,x8,mT r];rfl
section
variable{P:Program}{X:Cx}{nt:Nat}{s:St}{a:Act}{o:Oper}{dst:Option Nat}{aO:Nat}
theorem Dn(hm:aH X s.mem s.aI){w':World}{b off:Nat}{zs:List Int}(h:Mi X.w w' b off zs)(hb:¬X.old b)(hF:∀o,¬X.F b o):Ext X {X with w:=w'}:=by
 have nT:=hm.low;refine⟨rfl,⟨h.os,h.tape,h.output,h.size,λk hk=>h.other k (nT k hk) λe=>hb (e▸hk)⟩,λ_ _ h=>h,λc o hc=>?_,λ_ _ h=>h,λ_ _ h=>.inl h⟩;have hne:c≠b:=by grind
 simp[World.cell?,h.other c (hm.oL c o hc) hne]
theorem J2(hs:fo X nt s a){f:Nat}{x:Operand}{x':bT}{_ts:Array TypeId}{E:fH}(hc:J1 P f)(hrun:(execOp a.eval o).run P X.w=.ok (.enter f #[a.eval x]) X.w)(hx:cU x=some x')(hr:xZ s (x'.ev s.slots)=some E):dh P X s a o dst aO (.bW E):=by
 have hv:=bg hs hx;intro K Q hK;unfold Oper.wp;rw[hrun];have hu:∀Y:Cx,VR Y jF (.tuple #[]):=λY=>⟨#[],rfl,trivial⟩;unfold xZ at hr;split at hr;.rename_i he;cases hr;rw[he]at hv;obtain⟨ad,b,off,sz,JM,_⟩:=hv;rw[JM];refine Calls.mono (hc.empty ad 0 X.w) ?_;rintro en w'⟨rfl,rfl⟩;exact hK X _ (Ext.refl X) (hu X) hs.mem ⟨Nat.le_refl _,λv L h=>.inl h⟩
 .rename_i lv sl ah off len sz he;split at hr
  .rename_i els hrow;obtain⟨zs,hz,hr2⟩:=Option.bind_eq_some_iff.1 hr;split at hr2
   .rename_i ZR;obtain⟨rfl,rfl,rfl,hlt⟩:=ZR;cases hr2;rw[he]at hv;have Ai:=rG hz;have hlen:els.length=zs.length:=by rw[Ai];simp[iB]
    obtain⟨L,hL,hE,hg⟩:=lX hs.mem hrow;obtain⟨L1,ad,cap,Mg,h1,JM,h3,h4⟩:=hv;rw[hL]at Mg;cases Mg;rw[JM];by_cases h0:els.length=0;.have hz0:zs=[]:=List.eq_nil_of_length_eq_zero (by omega);subst hz0;rw[h0];refine Calls.mono (hc.empty ad cap X.w) ?_;rintro en w'⟨rfl,rfl⟩;refine hK X _ (Ext.refl X) (hu X) ?_ ⟨Nat.le_refl _,λv L h=>.inl h⟩;show aH X (ct s.mem lv sl (some (.row ah []))) s.aI;refine hs.mem.congr (λcL dU=>?_) λ_=>rfl;rw[cx]<;>grind
    .obtain⟨rfl,h5⟩:=h4 (by omega);have hc0:0<L.cap:=by omega
     obtain⟨C,ce,zq,sV,XC,hb4,hb5,hb6,hap,Al⟩:=mX hs.mem hg hL hc0;have hC:∀(j:Nat)z,zs[j]?=some z->C[L.o+j]?=some (.int .i64 z):=by
      intro j z hj;have hq:els[j]?=some [.sc (.int .i64 z)]:=by rw[Ai];simp[iB,hj]
      obtain⟨v,hv,hd⟩:=Al j _ 0 _ hq rfl;rw[h1,Nat.mul_one,Nat.add_zero]at hv;rw[hv];cases hd with|sc v _=>rfl
     have cT:=hc.rows L.b L.o cap zs X.w C ce zq hC (by omega) (by omega);rw[<-hlen]at cT;refine Calls.mono cT ?_;rintro en w'⟨rfl,hw⟩;have hx:=Dn hs.mem hw sV hb4;refine hK {X with w:=w'} _ hx (hu _) ?_ ⟨Nat.le_refl _,λv L h=>.inl h⟩;obtain⟨C',hq1,wT,P4⟩:=hw.row C ce zq;have ZS:aH {X with w:=w'} (ct s.mem lv sl none) s.aI:=(hs.mem.erase lv sl).move hx (λk v M a b c=>by obtain⟨M',kU,h2⟩:=(hs.mem.erase lv sl).dG a;rw[b]at kU;injection kU with kU;subst kU;exact hw.other M.b (h2 c).1 (hap k v M a b c)) (λ_ _ _ _ _ _ _ h=>h) (λb o hb=>by have:=hs.mem.oL b o hb;have:=hw.size;show b<w'.heap.size;omega);have bX:(jm zs).length=zs.length:=mT zs;refine ZS.reset (e:=.row ah (iB (jm zs))) (L:=L) hL ⟨by simp only[iB,List.length_map];omega,λe he=>?_,λ_=>⟨⟨sV,C',ce,hq1,by rw[wT];exact XC⟩,hb4⟩,λq f j x hq hj=>?_⟩ λk v M a b c _=>hap k v M a b c;.simp[iB,List.mem_map]at he<;>grind
     .simp[iB,List.getElem?_map,Option.map_eq_some_iff]at hq;obtain⟨z,JW,rfl⟩:=hq;have hj0:j=0/\x=.sc (.int .i64 z):=by grind
      obtain⟨rfl,rfl⟩:=hj0;refine⟨.int .i64 z,?_,.sc _ rfl⟩;rw[cell_of_row _ _ _ _ _ _ hq1,h1,Nat.mul_one]<;>grind
   grind
  grind
 grind
theorem mU:∀l,(jo l).length<=l.length
 |[]=>Nat.le_refl _|x::r=>by
  unfold jo;split;.simp
  .split;.exact Nat.le_succ_of_le (mU _)
   .exact Nat.succ_le_succ (mU _)
theorem CO(hs:fo X nt s a)(hfr:X.ρ aO=none){f:Nat}{x:Operand}{x':bT}{_ts:Array TypeId}{E:fH}(hc:wS P f)(hrun:(execOp a.eval o).run P X.w=.ok (.enter f #[a.eval x]) X.w)(hx:cU x=some x')(hr:lV s aO (x'.ev s.slots)=some E):dh P X s a o dst aO (.bW E):=by
 have hv:=bg hs hx;intro K Q hK;unfold Oper.wp;rw[hrun];unfold lV at hr;split at hr;.rename_i he;cases hr;rw[he]at hv;have kO:=hv;obtain⟨ad,b,off,sz,JM,_⟩:=hv;rw[JM]at kO⊢;refine Calls.mono (hc.empty ad 0 X.w) ?_;rintro en w'⟨rfl,rfl⟩;exact hK X _ (Ext.refl X) kO hs.mem ⟨Nat.le_refl _,λv L h=>.inl h⟩
 .rename_i lv sl ah off len sz he;split at hr
  .rename_i els hrow;obtain⟨zs,hz,hr2⟩:=Option.bind_eq_some_iff.1 hr;split at hr2
   .rename_i ZR;obtain⟨rfl,rfl,rfl,hlt⟩:=ZR;cases hr2;rw[he]at hv;have kO:=hv;have Ai:=rG hz;have hlen:els.length=zs.length:=by rw[Ai];simp[iB]
    obtain⟨L,hL,hE,hg⟩:=lX hs.mem hrow;obtain⟨L1,ad,cap,Mg,h1,JM,h3,h4⟩:=hv;rw[hL]at Mg;cases Mg;rw[JM]at kO⊢;by_cases h0:els.length=0
    .have hz0:zs=[]:=List.eq_nil_of_length_eq_zero (by omega);subst hz0;obtain⟨Y,hw,g1,g2,g3,g4⟩:=Mh (n:=s.nv) hs.mem hfr (l:=0) (h':=0) kO hrow (Nat.le_refl _) (Nat.zero_le _) (by omega);rw[h0];refine Calls.mono (hc.empty ad cap X.w) ?_;rintro en w'⟨rfl,rfl⟩;rw[<-hw];refine hK Y _ g1 ?_ ?_ g4
     .have e:(if cap=0then ad else ad.map (·.add (0*1)))=ad:=by
       split;.rfl
       .rw[(h4 (by omega)).1];simp[Addr.add_lit]
      rw[e]at g2;exact g2
     .exact g3
    .obtain⟨rfl,h5⟩:=h4 (by omega);have hc0:0<L.cap:=by omega
     obtain⟨C,ce,zq,sV,XC,hb4,hb5,hb6,hap,Al⟩:=mX hs.mem hg hL hc0;have hC:∀(j:Nat)z,zs[j]?=some z->C[L.o+j]?=some (.int .i64 z):=by
      intro j z hj;have hq:els[j]?=some [.sc (.int .i64 z)]:=by rw[Ai];simp[iB,hj]
      obtain⟨v,hv,hd⟩:=Al j _ 0 _ hq rfl;rw[h1,Nat.mul_one,Nat.add_zero]at hv;rw[hv];cases hd with|sc v _=>rfl
     have cT:=hc.rows L.b L.o cap zs X.w C ce zq hC (by omega) (by omega) (by omega);rw[<-hlen]at cT;refine Calls.mono cT ?_;rintro en w'⟨rfl,hw⟩;have hx:=Dn hs.mem hw sV hb4;let L':Loc:=⟨L.b,L.o,1,cap⟩;have adB:({X with w:=w'}:Cx).ρ aO=none:=hfr;have hxn:Ext {X with w:=w'} (({X with w:=w'}:Cx).name aO L'):=dW adB;have bX:=mU zs;refine hK (({X with w:=w'}:Cx).name aO L') _ (hx.trans hxn) ⟨L',_,cap,ep,rfl,rfl,by omega,λ_=>⟨by simp[L'],by simp[L']⟩⟩ ?_ ⟨Nat.le_refl _,λv M hw=>by
      rcases(ic (X:={X with w:=w'}) (v:=aO) (n:=0) (L:=L')).2 v M hw with hq|hq|hq;.exact .inl hq
      .exact .inr (.inl hq)
      .omega⟩;obtain⟨C',hq1,wT,P4⟩:=hw.row C ce zq;have ZS:aH {X with w:=w'} (ct s.mem lv sl none) s.aI:=(hs.mem.erase lv sl).move hx (λk v M a b c=>by obtain⟨M',kU,h2⟩:=(hs.mem.erase lv sl).dG a;rw[b]at kU;injection kU with kU;subst kU;exact hw.other M.b (h2 c).1 (hap k v M a b c)) (λ_ _ _ _ _ _ _ h=>h) (λb o hb=>by have:=hs.mem.oL b o hb;have:=hw.size;show b<w'.heap.size;omega);refine(gu ZS adB).reset (e:=.row aO (iB (jo zs))) (L:=L') ep ⟨by simp only[iB,List.length_map,L'];omega,λe he=>?_,λ_=>⟨⟨sV,C',ce,hq1,?_⟩,hb4⟩,λq f j x hq hj=>?_⟩ λk v M a b c _=>?_;.simp[iB,List.mem_map]at he;obtain⟨z,_,rfl⟩:=he;rfl
     .show L.o+cap*1<=C'.size;rw[h1]at XC;omega
     .simp[iB,List.getElem?_map,Option.map_eq_some_iff]at hq;obtain⟨z,JW,rfl⟩:=hq;have hj0:j=0/\x=.sc (.int .i64 z):=by cases j with|zero=>simp at hj;exact⟨rfl,hj.symm⟩|succ j=>simp at hj
      obtain⟨rfl,rfl⟩:=hj0;refine⟨.int .i64 z,?_,.sc _ rfl⟩;show World.cell? w' ⟨L.b,L.o+q*1+0,none⟩=_;rw[cell_of_row _ _ _ _ _ _ hq1,Nat.mul_one];exact P4 q z JW
     .obtain⟨M',kU,_⟩:=(hs.mem.erase lv sl).dG a;have h9:(({X with w:=w'}:Cx).name aO L').ρ v=some M':=hxn.loc _ _ kU;rw[b]at h9;cases h9;exact hap k v M a kU c
   grind
  grind
 grind
theorem NL(hs:fo X nt s a)(hfr:X.ρ aO=none){x:Operand}{x':bT}{row d:Nat}(hrun:(execOp a.eval o).run P X.w=.ok (.value (a.eval x)) X.w)(hx:cU x=some x'):dh P X s a o dst aO (.bW (zo row (s.mem.length-1) d aO (x'.ev s.slots))):=by
 have hv:=bg hs hx;unfold zo;split;.rename_i he;rw[he]at hv;obtain⟨ad,b,off,sz,JM,_⟩:=hv;refine .value (Y:=X.name aO ⟨0,0,row/65536,0⟩) (by rw[hrun,JM];rfl) (dW hfr) ⟨⟨0,0,row/65536,0⟩,ad,0,ep,rfl,rfl,Nat.le_refl _,λhq=>absurd hq (by simp)⟩ ?_ ic;exact(gu hs.mem hfr).add (e:=.row aO []) (L:=⟨0,0,row/65536,0⟩) ep ⟨by simp,by simp,λhq=>absurd hq (by simp),by simp⟩ λ_ _ _ _ _ _ _ hq=>absurd hq (by simp)
 .exact .quiet hs ⟨a.eval x,hrun,hv⟩
theorem J3(hs:fo X nt s a)(hfr:X.ρ aO=none){x:Operand}{x':bT}{d:Nat}{E:fH}(hrun:(execOp a.eval o).run P X.w=.ok (.value (a.eval x)) X.w)(hx:cU x=some x')(hr:GU s (s.mem.length-1) d aO (x'.ev s.slots)=some E):dh P X s a o dst aO (.bW E):=by
 have hv:=bg hs hx;unfold GU at hr;split at hr
 .rename_i cL dU ah off len sz he;rw[he]at hv;split at hr
  .rename_i els hrow;split at hr;.rename_i hle;have hle:=Nat.le_of_ble_eq_true hle;cases hr;obtain⟨Y,hw,g1,g2,g3,g4⟩:=Qz (n:=s.nv) (lv2:=s.mem.length-1) (sl2:=d) hs.mem hfr hv hrow hle;exact .value (Y:=Y) (by rw[hw];exact hrun) g1 g2 g3 g4
   grind
  grind
 grind
theorem As{call:Go.bJ.Call}{sh:Nat->Bool}(hs:fo X nt s a)(hfr:X.ρ aO=none){x:Operand}{x':bT}{row d:Nat}{r:hU}(hrun:(execOp a.eval o).run P X.w=.ok (.value (a.eval x)) X.w)(hx:cU x=some x')(hr:cj.run call sh s row d aO (.GM x')=some r):dh P X s a o dst aO r:=by
 simp[cj.run]at hr;split at hr;.obtain⟨E,hE,rfl⟩:=Option.map_eq_some_iff.1 hr;exact J3 hs hfr hrun hx hE
 .cases hr;exact NL hs hfr hrun hx
end
end Go.bJ
