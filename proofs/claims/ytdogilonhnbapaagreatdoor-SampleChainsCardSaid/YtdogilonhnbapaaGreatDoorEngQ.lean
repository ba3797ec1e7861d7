/- A part of the proof: EngP, EngQ. -/
import Derived.Test.YtdogilonhnbapaaGreatDoorEngO
set_option linter.unusedVariables false
set_option linter.unusedSimpArgs false
namespace Go.bI
open Go Go.RowKit
structure Ns(w w':World)(b off:Nat)(zs:List Int):Prop where
 os:w'.os=w.os
 tape:w'.tape=w.tape
 output:w'.output=w.output
 size:w.heap.size<=w'.heap.size
 other:∀k,k<w.heap.size->k≠b->w'.heap[k]?=w.heap[k]?row:∀C e,w.heap[b]?=some (.cells C e (0,0))->∃C',w'.heap[b]?=some (.cells C' e (0,0))/\C'.size=C.size/\∀j z,zs[j]?=some z->C'[off+j]?=some (.int .i64 z)
structure KQ(P:Program)(f:Nat):Prop where
 fn:∃fn,P.funcs[f]?=some fn/\fn.body.isSome=true/\(fn.name== "runtime.NumGoroutine")=false
 empty:∀p cap w,Calls P f #[.slice p 0 cap] w λe w'=>e=.returned (.tuple #[])/\w'=w
 rows:∀b off cap zs w C e,w.heap[b]?=some (.cells C e (0,0))->(∀(j:Nat)z,zs[j]?=some z->C[off+j]?=some (.int .i64 z))->0<zs.length->zs.length<4611686018427387904->Calls P f #[.slice (some ⟨b,off,none⟩) zs.length cap] w λe w'=>e=.returned (.tuple #[])/\Ns w w' b off (jo zs)
structure xl(P:Program)(f:Nat):Prop where
 fn:∃fn,P.funcs[f]?=some fn/\fn.body.isSome=true/\(fn.name== "runtime.NumGoroutine")=false
 empty:∀p cap w,Calls P f #[.slice p 0 cap] w λe w'=>e=.returned (.slice p 0 cap)/\w'=w
 rows:∀b off cap zs w C e,w.heap[b]?=some (.cells C e (0,0))->(∀(j:Nat)z,zs[j]?=some z->C[off+j]?=some (.int .i64 z))->0<zs.length->zs.length<4611686018427387904->zs.length<=cap->Calls P f #[.slice (some ⟨b,off,none⟩) zs.length cap] w λe w'=>e=.returned (.slice (some ⟨b,off,none⟩) (jq zs).length cap)/\Ns w w' b off (jq zs)
structure kU(P:Program)(f T:Nat):Prop where
 clone:T≠1000000->T≠1000001->FX P f T
 sort:T=1000000->KQ P f
 compact:T=1000001->xl P f
theorem r6:∀{els:List (List D)}{zs:List Int},rP els=some zs->els=iA zs
 |[],zs,h=>by cases h;rfl|e::r,zs,h=>by
  unfold rP at h;split at h;.grind
  .rename_i z r' h1;cases h1;obtain⟨y,hy,rfl⟩:=Option.map_eq_some_iff.1 h;rw[r6 hy];rfl
  grind
theorem yy(x:Int):∀l,(AJ x l).length=l.length+1
 |[]=>rfl|y::r=>by
  unfold AJ;split;.rfl
  .rw[List.length_cons,yy x r];rfl
theorem mW:∀l,(jo l).length=l.length|[]=>rfl|x::r=>by rw[jo,yy,mW r];rfl
section
variable{P:Program}{X:Cx}{nt:Nat}{s:St}{a:Act}{o:Oper}{dst:Option Nat}{aO:Nat}
theorem DW(hm:aH X s.mem s.aG){w':World}{b off:Nat}{zs:List Int}(h:Ns X.w w' b off zs)(hb:¬X.old b)(hF:∀o,¬X.F b o):Ext X {X with w:=w'}:=by
 have n9:=hm.low;refine⟨rfl,⟨h.os,h.tape,h.output,h.size,λk hk=>h.other k (n9 k hk) λe=>hb (e▸hk)⟩,λ_ _ h=>h,λc o hc=>?_,λ_ _ h=>h,λ_ _ h=>.inl h⟩;have hne:c≠b:=by grind
 simp[World.cell?,h.other c (hm.n8 c o hc) hne]
theorem KS(hs:fk X nt s a){f:Nat}{x:Operand}{x':bZ}{_ts:Array TypeId}{E:fH}(hc:KQ P f)(hrun:(execOp a.eval o).run P X.w=.ok (.enter f #[a.eval x]) X.w)(hx:cY x=some x')(hr:yq s (x'.ev s.slots)=some E):dh P X s a o dst aO (.bX E):=by
 have hv:=bn hs hx;intro K Q hK;unfold Oper.wp;rw[hrun];have hu:∀Y:Cx,VR Y jH (.tuple #[]):=λY=>⟨#[],rfl,trivial⟩;unfold yq at hr;split at hr;.rename_i he;cases hr;rw[he]at hv;obtain⟨ad,b,off,sz,HJ,_⟩:=hv;rw[HJ];refine Calls.mono (hc.empty ad 0 X.w) ?_;rintro en w'⟨rfl,rfl⟩;exact hK X _ (Ext.refl X) (hu X) hs.mem ⟨Nat.le_refl _,λv L h=>.inl h⟩
 .rename_i lv sl ai off len sz he;split at hr
  .rename_i els hrow;obtain⟨zs,hz,hr2⟩:=Option.bind_eq_some_iff.1 hr;split at hr2
   .rename_i ab0;obtain⟨rfl,rfl,rfl,hlt⟩:=ab0;cases hr2;rw[he]at hv;have AS:=r6 hz;have hlen:els.length=zs.length:=by rw[AS];simp[iA]
    obtain⟨L,hL,hE,hg⟩:=l7 hs.mem hrow;obtain⟨L1,ad,cap,Np,h1,HJ,h3,h4⟩:=hv;rw[hL]at Np;cases Np;rw[HJ];by_cases h0:els.length=0;.have hz0:zs=[]:=List.eq_nil_of_length_eq_zero (by omega);subst hz0;rw[h0];refine Calls.mono (hc.empty ad cap X.w) ?_;rintro en w'⟨rfl,rfl⟩;refine hK X _ (Ext.refl X) (hu X) ?_ ⟨Nat.le_refl _,λv L h=>.inl h⟩;show aH X (cj s.mem lv sl (some (.row ai []))) s.aG;refine hs.mem.congr (λcG dF=>?_) λ_=>rfl;rw[cr]<;>grind
    .obtain⟨rfl,h5⟩:=h4 (by omega);have hc0:0<L.cap:=by omega
     obtain⟨C,ce,zV,tD,ZM,hb4,hb5,hb6,hap,AW⟩:=ni hs.mem hg hL hc0;have hC:∀(j:Nat)z,zs[j]?=some z->C[L.o+j]?=some (.int .i64 z):=by
      intro j z hj;have hq:els[j]?=some [.sc (.int .i64 z)]:=by rw[AS];simp[iA,hj]
      obtain⟨v,hv,hd⟩:=AW j _ 0 _ hq rfl;rw[h1,Nat.mul_one,Nat.add_zero]at hv;rw[hv];cases hd with|sc v _=>rfl
     have cM:=hc.rows L.b L.o cap zs X.w C ce zV hC (by omega) (by omega);rw[<-hlen]at cM;refine Calls.mono cM ?_;rintro en w'⟨rfl,hw⟩;have hx:=DW hs.mem hw tD hb4;refine hK {X with w:=w'} _ hx (hu _) ?_ ⟨Nat.le_refl _,λv L h=>.inl h⟩;obtain⟨C',hq1,xm,Re⟩:=hw.row C ce zV;have hmm:aH {X with w:=w'} (cj s.mem lv sl none) s.aG:=(hs.mem.erase lv sl).move hx (λk v M a b c=>by obtain⟨M',jY,h2⟩:=(hs.mem.erase lv sl).cZ a;rw[b]at jY;injection jY with jY;subst jY;exact hw.other M.b (h2 c).1 (hap k v M a b c)) (λ_ _ _ _ _ _ _ h=>h) (λb o hb=>by have:=hs.mem.n8 b o hb;have:=hw.size;show b<w'.heap.size;omega);have cg:(jo zs).length=zs.length:=mW zs;refine hmm.reset (e:=.row ai (iA (jo zs))) (L:=L) hL ⟨by simp only[iA,List.length_map];omega,λe he=>?_,λ_=>⟨⟨tD,C',ce,hq1,by rw[xm];exact ZM⟩,hb4⟩,λq f j x hq hj=>?_⟩ λk v M a b c _=>hap k v M a b c;.simp[iA,List.mem_map]at he<;>grind
     .simp[iA,List.getElem?_map,Option.map_eq_some_iff]at hq;obtain⟨z,KL,rfl⟩:=hq;have hj0:j=0/\x=.sc (.int .i64 z):=by grind
      obtain⟨rfl,rfl⟩:=hj0;refine⟨.int .i64 z,?_,.sc _ rfl⟩;rw[cell_of_row _ _ _ _ _ _ hq1,h1,Nat.mul_one]<;>grind
   grind
  grind
 grind
theorem mX:∀l,(jq l).length<=l.length
 |[]=>Nat.le_refl _|x::r=>by
  unfold jq;split;.simp
  .split;.exact Nat.le_succ_of_le (mX _)
   .exact Nat.succ_le_succ (mX _)
theorem Di(hs:fk X nt s a)(hfr:X.ρ aO=none){f:Nat}{x:Operand}{x':bZ}{_ts:Array TypeId}{E:fH}(hc:xl P f)(hrun:(execOp a.eval o).run P X.w=.ok (.enter f #[a.eval x]) X.w)(hx:cY x=some x')(hr:l5 s aO (x'.ev s.slots)=some E):dh P X s a o dst aO (.bX E):=by
 have hv:=bn hs hx;intro K Q hK;unfold Oper.wp;rw[hrun];unfold l5 at hr;split at hr;.rename_i he;cases hr;rw[he]at hv;have kT:=hv;obtain⟨ad,b,off,sz,HJ,_⟩:=hv;rw[HJ]at kT⊢;refine Calls.mono (hc.empty ad 0 X.w) ?_;rintro en w'⟨rfl,rfl⟩;exact hK X _ (Ext.refl X) kT hs.mem ⟨Nat.le_refl _,λv L h=>.inl h⟩
 .rename_i lv sl ai off len sz he;split at hr
  .rename_i els hrow;obtain⟨zs,hz,hr2⟩:=Option.bind_eq_some_iff.1 hr;split at hr2
   .rename_i ab0;obtain⟨rfl,rfl,rfl,hlt⟩:=ab0;cases hr2;rw[he]at hv;have kT:=hv;have AS:=r6 hz;have hlen:els.length=zs.length:=by rw[AS];simp[iA]
    obtain⟨L,hL,hE,hg⟩:=l7 hs.mem hrow;obtain⟨L1,ad,cap,Np,h1,HJ,h3,h4⟩:=hv;rw[hL]at Np;cases Np;rw[HJ]at kT⊢;by_cases h0:els.length=0
    .have hz0:zs=[]:=List.eq_nil_of_length_eq_zero (by omega);subst hz0;obtain⟨Y,hw,g1,g2,g3,g4⟩:=Nr (n:=s.nv) hs.mem hfr (l:=0) (h':=0) kT hrow (Nat.le_refl _) (Nat.zero_le _) (by omega);rw[h0];refine Calls.mono (hc.empty ad cap X.w) ?_;rintro en w'⟨rfl,rfl⟩;rw[<-hw];refine hK Y _ g1 ?_ ?_ g4
     .have e:(if cap=0then ad else ad.map (·.add (0*1)))=ad:=by
       split;.rfl
       .rw[(h4 (by omega)).1];simp[Addr.add_lit]
      rw[e]at g2;exact g2
     .exact g3
    .obtain⟨rfl,h5⟩:=h4 (by omega);have hc0:0<L.cap:=by omega
     obtain⟨C,ce,zV,tD,ZM,hb4,hb5,hb6,hap,AW⟩:=ni hs.mem hg hL hc0;have hC:∀(j:Nat)z,zs[j]?=some z->C[L.o+j]?=some (.int .i64 z):=by
      intro j z hj;have hq:els[j]?=some [.sc (.int .i64 z)]:=by rw[AS];simp[iA,hj]
      obtain⟨v,hv,hd⟩:=AW j _ 0 _ hq rfl;rw[h1,Nat.mul_one,Nat.add_zero]at hv;rw[hv];cases hd with|sc v _=>rfl
     have cM:=hc.rows L.b L.o cap zs X.w C ce zV hC (by omega) (by omega) (by omega);rw[<-hlen]at cM;refine Calls.mono cM ?_;rintro en w'⟨rfl,hw⟩;have hx:=DW hs.mem hw tD hb4;let L':Loc:=⟨L.b,L.o,1,cap⟩;have agF:({X with w:=w'}:Cx).ρ aO=none:=hfr;have hxn:Ext {X with w:=w'} (({X with w:=w'}:Cx).name aO L'):=dV agF;have cg:=mX zs;refine hK (({X with w:=w'}:Cx).name aO L') _ (hx.trans hxn) ⟨L',_,cap,ew,rfl,rfl,by omega,λ_=>⟨by simp[L'],by simp[L']⟩⟩ ?_ ⟨Nat.le_refl _,λv M hw=>by
      rcases(ia (X:={X with w:=w'}) (v:=aO) (n:=0) (L:=L')).2 v M hw with hq|hq|hq;.exact .inl hq
      .exact .inr (.inl hq)
      .omega⟩;obtain⟨C',hq1,xm,Re⟩:=hw.row C ce zV;have hmm:aH {X with w:=w'} (cj s.mem lv sl none) s.aG:=(hs.mem.erase lv sl).move hx (λk v M a b c=>by obtain⟨M',jY,h2⟩:=(hs.mem.erase lv sl).cZ a;rw[b]at jY;injection jY with jY;subst jY;exact hw.other M.b (h2 c).1 (hap k v M a b c)) (λ_ _ _ _ _ _ _ h=>h) (λb o hb=>by have:=hs.mem.n8 b o hb;have:=hw.size;show b<w'.heap.size;omega);refine(gv hmm agF).reset (e:=.row aO (iA (jq zs))) (L:=L') ew ⟨by simp only[iA,List.length_map,L'];omega,λe he=>?_,λ_=>⟨⟨tD,C',ce,hq1,?_⟩,hb4⟩,λq f j x hq hj=>?_⟩ λk v M a b c _=>?_;.simp[iA,List.mem_map]at he;obtain⟨z,_,rfl⟩:=he;rfl
     .show L.o+cap*1<=C'.size;rw[h1]at ZM;omega
     .simp[iA,List.getElem?_map,Option.map_eq_some_iff]at hq;obtain⟨z,KL,rfl⟩:=hq;have hj0:j=0/\x=.sc (.int .i64 z):=by cases j with|zero=>simp at hj;exact⟨rfl,hj.symm⟩|succ j=>simp at hj
      obtain⟨rfl,rfl⟩:=hj0;refine⟨.int .i64 z,?_,.sc _ rfl⟩;show World.cell? w' ⟨L.b,L.o+q*1+0,none⟩=_;rw[cell_of_row _ _ _ _ _ _ hq1,Nat.mul_one];exact Re q z KL
     .obtain⟨M',jY,_⟩:=(hs.mem.erase lv sl).cZ a;have h9:(({X with w:=w'}:Cx).name aO L').ρ v=some M':=hxn.loc _ _ jY;rw[b]at h9;cases h9;exact hap k v M a jY c
   grind
  grind
 grind
theorem OT(hs:fk X nt s a)(hfr:X.ρ aO=none){x:Operand}{x':bZ}{row d:Nat}(hrun:(execOp a.eval o).run P X.w=.ok (.value (a.eval x)) X.w)(hx:cY x=some x'):dh P X s a o dst aO (.bX (zT row (s.mem.length-1) d aO (x'.ev s.slots))):=by
 have hv:=bn hs hx;unfold zT;split;.rename_i he;rw[he]at hv;obtain⟨ad,b,off,sz,HJ,_⟩:=hv;refine .value (Y:=X.name aO ⟨0,0,row/65536,0⟩) (by rw[hrun,HJ];rfl) (dV hfr) ⟨⟨0,0,row/65536,0⟩,ad,0,ew,rfl,rfl,Nat.le_refl _,λhq=>absurd hq (by simp)⟩ ?_ ia;exact(gv hs.mem hfr).add (e:=.row aO []) (L:=⟨0,0,row/65536,0⟩) ew ⟨by simp,by simp,λhq=>absurd hq (by simp),by simp⟩ λ_ _ _ _ _ _ _ hq=>absurd hq (by simp)
 .exact .quiet hs ⟨a.eval x,hrun,hv⟩
theorem KT(hs:fk X nt s a)(hfr:X.ρ aO=none){x:Operand}{x':bZ}{d:Nat}{E:fH}(hrun:(execOp a.eval o).run P X.w=.ok (.value (a.eval x)) X.w)(hx:cY x=some x')(hr:HX s (s.mem.length-1) d aO (x'.ev s.slots)=some E):dh P X s a o dst aO (.bX E):=by
 have hv:=bn hs hx;unfold HX at hr;split at hr
 .rename_i cG dF ai off len sz he;rw[he]at hv;split at hr
  .rename_i els hrow;split at hr;.rename_i hle;have hle:=Nat.le_of_ble_eq_true hle;cases hr;obtain⟨Y,hw,g1,g2,g3,g4⟩:=RM (n:=s.nv) (lv2:=s.mem.length-1) (sl2:=d) hs.mem hfr hv hrow hle;exact .value (Y:=Y) (by rw[hw];exact hrun) g1 g2 g3 g4
   grind
  grind
 grind
theorem A4{call:Go.bI.Call}{sh:Nat->Bool}(hs:fk X nt s a)(hfr:X.ρ aO=none){x:Operand}{x':bZ}{row d:Nat}{r:gB}(hrun:(execOp a.eval o).run P X.w=.ok (.value (a.eval x)) X.w)(hx:cY x=some x')(hr:cq.run call sh s row d aO (.HQ x')=some r):dh P X s a o dst aO r:=by
 simp[cq.run]at hr;split at hr;.obtain⟨E,hE,rfl⟩:=Option.map_eq_some_iff.1 hr;exact KT hs hfr hrun hx hE
 .cases hr;exact OT hs hfr hrun hx
end
end Go.bI
namespace Go.bI
open Go Go.RowKit
def cI(P:Program)(call:Go.bI.Call):Prop:=∀f args mem aG nv r mem' ri Nt,call f args mem aG nv=some (r,mem',ri,Nt)->∀(X:Cx)(bK:Array Value),aH X mem aG->(∀v,nv<=v->X.ρ v=none)->aC (V1 X) args bK.toList->(∃fn,P.funcs[f]?=some fn/\fn.body.isSome=true/\(fn.name== "runtime.NumGoroutine")=false)/\Calls P f bK X.w λe w'=>∃Y v,e=.returned v/\Y.w=w'/\Ext X Y/\VR Y r v/\aH Y mem' ri/\nv<=Nt/\∀u L,Y.ρ u=some L->X.ρ u=some L\/(nv<=u/\u<Nt)
theorem DR.mono{w:World}{F G:Nat->Nat->Prop}(h:∀b o,F b o->G b o){x:D}{v:Value}(hd:DR w F x v):DR w G x v:=by induction hd with|sc v h1=>exact .sc v h1|er v h1=>exact .er v h1|sl els a n cap sz b o g hn hcap hsz ha hF hc _ ih=>exact .sl els a n cap sz b o g hn hcap hsz ha (λi e j x h1 h2=>h _ _ (hF i e j x h1 h2)) hc ih
theorem eg.mono{w:World}{F G R S:Nat->Nat->Prop}(h:∀b o,F b o->G b o){els:List (List D)}{b o sz:Nat}(hrs:∀q,(∃v,w.cell? ⟨b,q,none⟩=some v)->R b q->S b q)(hl:eg w F R els b o sz):eg w G S els b o sz:=⟨hl.1,λi e j x h1 h2=>by obtain⟨hF,v,hv,hd⟩:=hl.2 i e j x h1 h2;exact⟨hrs _ ⟨v,hv⟩ hF,v,hv,hd.mono h⟩⟩
theorem Nu{w:World}{b o:Nat}(h:∃v,w.cell? ⟨b,o,none⟩=some v):b<w.heap.size:=by obtain⟨v,hv⟩:=h;exact World.block_lt_of_cell? w ⟨b,o,none⟩ hv
def Cx.inner(X:Cx):Cx:={w:=X.w,F:=X.F,ρ:=λ_=>none,old:=λb=>b<X.w.heap.size}
theorem FY{X Y:Cx}{f:Nat}{v:Value}(h:VC X (.gm f []) v):VC Y (.gm f []) v:=by grind[KG,aC,VC]
section
variable{X:Cx}{m:List (Tr bC)}{t:Tr Unit}
theorem l8(h:aH X m t)(ks:List (Nat×Nat)){x y:AV}{v:Value}(hx:cR m x=some y)(hv:VC X x v):VC (X.lZ m ks).inner y v:=by
 have hex:=qo h ks;have hsub:∀b o,X.F b o->(X.lZ m ks).F b o:=λ_ _=>.inl;have data:∀{els a cap sz b o},v=.slice a els.length cap->els.length<=cap->(0<els.length->a=some ⟨b,o,none⟩)->eg X.w X.F X.F els b o sz->VC (X.lZ m ks).inner (.d (.sl els)) v:=by rintro els a cap sz b o rfl h2 h3 h4;exact DR.gp (h4.ext hex) rfl h2 h3
 have RT:∀{els a cap sz b o}{R:Nat->Nat->Prop},v=.slice a els.length cap->els.length<=cap->(0<els.length->a=some ⟨b,o,none⟩)->eg X.w X.F R els b o sz->VC (X.lZ m ks).inner (.own els .bA) v:=by rintro els a cap sz b o R rfl h2 h3 h4;exact⟨a,b,o,sz,cap,rfl,h2,h3,h4.mono hsub λq hq _=>Nu hq⟩
 cases x with
 |d x=>cases hx;exact DR.ext hex hv|own els ow=>cases ow with|full=>cases hx;obtain⟨a,b,o,sz,h1,h2,h3⟩:=hv;exact data h1 (Nat.le_refl _) h2 h3|cB ai tz=>cases hx;obtain⟨a,b,o,sz,cap,h1,h2,h3,h4,_⟩:=hv;exact data h1 h2 (λh=>h3 (by omega)) h4|bA=>cases hx;obtain⟨a,b,o,sz,cap,h1,h2,h3,h4⟩:=hv;exact RT h1 h2 h3 h4
 |ref lv sl ai off len sz=>simp only[cR]at hx;cases he:dm m (.ref lv sl ai off len sz)with|none=>grind|some els=>rw[he]at hx;cases hx;obtain⟨a,cap,sz',b,o,h1,h2,h3,h4⟩:=rU h he (.fy hv);exact RT h1 h2 h3 h4
 |gm f c=>cases c with|nil=>cases hx;exact FY hv|cons=>cases hx
 |_=>cases hx
theorem yz(h:aH X m t){ks k:List (Nat×Nat)}{x y:AV}{v:Value}(hx:ep m x=some (y,k))(hv:VC X x v)(hk:∀p∈k,p∈ks):VC (X.lZ m ks).inner y v:=by
 have alv:∀{x},(zS m x).map (λp=>(AV.d p.1,p.2))=some (y,k)->VC X x v->VC (X.lZ m ks).inner y v:=by intro x hx hv;cases hd:zS m x with|none=>rw[hd]at hx;cases hx|some p=>rw[hd]at hx;injection hx with hx;injection hx with h1 h2;subst h1;exact RB h (ks:=ks) hd hv λq hq=>hk q (by rw[<-h2];exact hq)
 unfold ep at hx;split at hx;.cases hx;exact l8 h ks rfl hv
 .cases hx;exact l8 h ks rfl hv
 .exact alv hx hv
theorem vE(h:aH X m t){ks:List (Nat×Nat)}:∀{xs ys:List AV}{k:List (Nat×Nat)}{vs:List Value},fh m xs=some (ys,k)->aC (VC X) xs vs->(∀p∈k,p∈ks)->aC (VC (X.lZ m ks).inner) ys vs
 |[],ys,k,[],hx,_,_=>by cases hx;trivial|x::xs,ys,k,v::vs,hx,hv,hk=>by
  simp[fh]at hx;split at hx;.rename_i y k1 ys' k2 h1 h2;cases hx;exact⟨yz h h1 hv.1 λp hp=>hk p (by simp[hp]),vE h h2 hv.2 λp hp=>hk p (by simp[hp])⟩
  grind|[],_,_,_::_,_,hv,_=>hv.elim|_::_,_,_,[],_,hv,_=>hv.elim
theorem Nv(h:aH X m t){ks k:List (Nat×Nat)}{x y:AV}{v:Value}(hx:xe m x=some (y,k))(hv:VR X x v)(hk:∀p∈k,p∈ks):V1 (X.lZ m ks).inner y v:=by
 have one:∀{x:AV},(cR m x).map (λy=>(y,([]:List (Nat×Nat))))=some (y,k)->VC X x v->V1 (X.lZ m ks).inner y v:=by intro x hx hv;cases hd:cR m x with|none=>grind|some y'=>rw[hd]at hx;cases hx;exact .fy (l8 h ks hd hv)
 cases x with
 |agg cs=>simp only[xe]at hx;cases hd:fh m cs with|none=>grind|some p=>rw[hd]at hx;injection hx with hx;injection hx with h1 h2;subst h1;obtain⟨vs,rfl,h3⟩:=hv;exact⟨vs,rfl,vE h (k:=p.2) hd h3 λq hq=>hk q (by rw[<-h2];exact hq)⟩
 |iF cs=>simp[xe,cR]at hx|_=>simp only[xe]at hx;exact one hx hv
theorem Io(h:aH X m t){ks:List (Nat×Nat)}:∀{xs ys:List AV}{k:List (Nat×Nat)}{vs:List Value},pg m xs=some (ys,k)->aC (VR X) xs vs->(∀p∈k,p∈ks)->aC (V1 (X.lZ m ks).inner) ys vs
 |[],ys,k,[],hx,_,_=>by cases hx;trivial|x::xs,ys,k,v::vs,hx,hv,hk=>by
  simp[pg]at hx;split at hx;.rename_i y k1 ys' k2 h1 h2;cases hx;exact⟨Nv h h1 hv.1 λp hp=>hk p (by simp[hp]),Io h h2 hv.2 λp hp=>hk p (by simp[hp])⟩
  grind|[],_,_,_::_,_,hv,_=>hv.elim|_::_,_,_,[],_,hv,_=>hv.elim
theorem Wl(h:aH X m t){ks k:List (Nat×Nat)}{x y:AV}{v:Value}(hx:xh m x=some (y,k))(hv:VR X x v)(hk:∀p∈k,p∈ks):V1 (X.lZ m ks).inner y v:=by cases x with|agg cs=>exact Nv h (x:=.agg cs) hx hv hk|iF cs=>simp[xh,ep,zS]at hx|_=>simp only[xh]at hx;exact .fy (yz h hx hv hk)
theorem Ip(h:aH X m t){ks:List (Nat×Nat)}:∀{xs ys:List AV}{k:List (Nat×Nat)}{vs:List Value},qW m xs=some (ys,k)->aC (VR X) xs vs->(∀p∈k,p∈ks)->aC (V1 (X.lZ m ks).inner) ys vs
 |[],ys,k,[],hx,_,_=>by cases hx;trivial|x::xs,ys,k,v::vs,hx,hv,hk=>by
  simp[qW]at hx;split at hx;.rename_i y k1 ys' k2 h1 h2;cases hx;exact⟨Wl h h1 hv.1 λp hp=>hk p (List.mem_append.2 (.inl hp)),Ip h h2 hv.2 λp hp=>hk p (List.mem_append.2 (.inr hp))⟩
  grind|[],_,_,_::_,_,hv,_=>hv.elim|_::_,_,_,[],_,hv,_=>hv.elim
theorem DX(h:aH X m t)(ks:List (Nat×Nat)):∀{xs ys:List AV}{vs:List Value},oS m xs=some ys->aC (VC X) xs vs->aC (VC (X.lZ m ks).inner) ys vs
 |[],ys,[],hx,_=>by cases hx;trivial|x::xs,ys,v::vs,hx,hv=>by
  simp[oS]at hx;split at hx;.rename_i y ys' h1 h2;cases hx;exact⟨l8 h ks h1 hv.1,DX h ks h2 hv.2⟩
  grind|[],_,_::_,_,hv=>hv.elim|_::_,_,[],_,hv=>hv.elim
theorem RU(h:aH X m t)(ks:List (Nat×Nat)){x y:AV}{v:Value}(hx:qX m x=some y)(hv:VR X x v):V1 (X.lZ m ks).inner y v:=by cases x with
 |agg cs=>simp only[qX]at hx;cases h1:oS m cs with|none=>grind|some z=>rw[h1]at hx;cases hx;obtain⟨vs,rfl,h3⟩:=hv;exact⟨vs,rfl,DX h ks h1 h3⟩
 |iF cs=>simp[qX,cR]at hx|_=>simp only[qX]at hx;exact .fy (l8 h ks hx hv)
theorem DY(h:aH X m t)(ks:List (Nat×Nat)):∀{xs ys:List AV}{vs:List Value},qg m xs=some ys->aC (VR X) xs vs->aC (V1 (X.lZ m ks).inner) ys vs
 |[],ys,[],hx,_=>by cases hx;trivial|x::xs,ys,v::vs,hx,hv=>by
  simp[qg]at hx;split at hx;.rename_i y ys' h1 h2;cases hx;exact⟨RU h ks h1 hv.1,DY h ks h2 hv.2⟩
  grind|[],_,_::_,_,hv=>hv.elim|_::_,_,[],_,hv=>hv.elim
theorem OU(h:aH X m t):aH X.inner [.lf] .lf:=by
 refine⟨λlv sl e he=>?_,λv hv=>by simp at hv,λk k' v v' L L' _ _ _ hv _ _ _=>?_,h.n8,λ_ h=>h,λb hb=>h.low b (h.ql.gb b hb),h.ql.gk⟩;.unfold aK at he;grind[Tr.get?,mM,bC.ai,Cx.inner]
 .cases hv
end
structure RW(Z:Cx)(top:Nat)(cm:List (Tr bC))(els:List (List D))(len sz:Nat)(v:Value):Prop where row:∃L off a cap,v=.slice a len cap/\len<=cap/\els.length=len/\(∀e∈els,e.length=sz)/\(0<cap->(∃cG dF e,top<=cG/\(aK cm cG dF=some e/\e.fz=false)/\Z.ρ e.ai=some L)/\a=some ⟨L.b,L.o+off*sz,none⟩/\off+cap<=L.cap/\L.sz=sz/\0<L.cap/\Block Z L.b (L.o+L.cap*L.sz)/\(∀o,¬Z.F L.b o)/\∀i e j x,els[i]?=some e->e[j]?=some x->∃u,Z.w.cell? ⟨L.b,L.o+off*sz+i*sz+j,none⟩=some u/\DR Z.w Z.F x u)
section
variable{Z Y:Cx}{cm:List (Tr bC)}{ts:Tr Unit}
theorem A5(h:aH Z cm ts){top pk k lv sl ai:Nat}(hw:Y.w=Z.w)(hF:∀b o,Z.F b o->Y.F b o)(hρ:0<top->∀v L,Z.ρ v=some L->Y.ρ v=some L)(hfz:pk=0->∀cG dF e L,top<=cG->aK cm cG dF=some e->e.fz=false->Z.ρ e.ai=some L->0<L.cap->∀o,Y.F L.b o){x y:AV}{us:List (List (List D))}{v:Value}(hx:bu cm top pk k lv sl ai x=some (y,us))(hv:VC Z x v):(us=[]/\VC Y y v)\/∃els len sz,us=[els]/\y=.ref lv sl ai 0 len sz/\pk≠0/\RW Z top cm els len sz v:=by
 have data:∀{els a cap sz b o},v=.slice a els.length cap->els.length<=cap->(0<els.length->a=some ⟨b,o,none⟩)->eg Z.w Z.F Z.F els b o sz->VC Y (.d (.sl els)) v:=by rintro els a cap sz b o rfl h2 h3 h4;refine DR.gp (b:=b) (o:=o) (sz:=sz) ?_ rfl h2 h3;rw[hw];exact h4.mono hF λq _ hq=>hF _ _ hq
 cases x with
 |d x=>injection hx with hx;injection hx with h1 h2;subst h1;refine .inl ⟨h2.symm,?_⟩;show DR Y.w Y.F x v;rw[hw];exact DR.mono hF hv|own els ow=>cases ow with
  |full=>
   simp[bu]at hx;obtain⟨a,b,o,sz,g1,g2,g3⟩:=hv;split at hx
   .rename_i hq;injection hx with hx;injection hx with h1 h2;subst h1;have hpk:pk≠0:=by intro e;subst e;simp at hq
    exact .inr ⟨[],0,pk/65536,h2.symm,rfl,hpk,⟨⟨0,0,0,0⟩,0,a,0,g1,Nat.le_refl _,rfl,λ_ h=>(by cases h),λh=>absurd h (by omega)⟩⟩
   .split at hx;.injection hx with hx;injection hx with h1 h2;subst h1;refine .inl ⟨h2.symm,a,b,o,sz,g1,g2,?_⟩;rw[hw];exact g3.mono hF λq _ hq=>hF _ _ hq
    grind|cB ai tz=>
   simp[bu]at hx;obtain⟨a,b,o,sz,cap,g1,g2,g3,g4,g5,g6⟩:=hv;split at hx
   .rename_i hk;injection hx with hx;injection hx with h1 h2;subst h1;have ht:0<top:=by
     have:=(Bool.and_eq_true_iff.1 hk).2;rcases Nat.eq_zero_or_pos top with e|e;.rw[e]at this;cases this
     .exact e
    refine .inl ⟨h2.symm,a,b,o,sz,cap,g1,g2,g3,?_,hρ ht _ _ g5,g6⟩;rw[hw];exact g4.mono hF λq _ hq=>hF _ _ hq
   grind|bA=>cases hx
 |ref cG dF gG off len sz=>simp[bu]at hx;cases hb:Nat.ble top cG with|false=>
   rw[hb]at hx;injection hx with hx;injection hx with h1 h2;subst h1;have ht:0<top:=by
    have:¬top<=cG:=λhle=>by rw[Nat.ble_eq_true_of_le hle]at hb;cases hb
    omega
   obtain⟨L,a,cap,g1,g2⟩:=hv;exact .inl ⟨h2.symm,L,a,cap,hρ ht _ _ g1,g2⟩|true=>rw[hb]at hx;have hle:top<=cG:=Nat.le_of_ble_eq_true hb;cases he:dm cm (.ref cG dF gG off len sz)with|none=>grind|some els=>rw[he]at hx;simp at hx;obtain⟨L',a,cap,hL',g1,rfl,g3,g4⟩:=hv;simp[dm]at he;cases hr:qV cm cG dF gG with|none=>grind|some els'=>
     rw[hr]at he;simp only[Option.bind_some]at he;split at he
     .cases he;obtain⟨L,hL,hE1,hE⟩:=AR h hr;rw[hL]at hL';injection hL' with hL';subst hL';have hlen:((els'.drop off).take len).length=len:=by grind
      have hsz:∀e∈(els'.drop off).take len,e.length=sz:=λf hf=>by rw[hE.1 f (List.mem_of_mem_drop (List.mem_of_mem_take hf)),g1]
      split at hx
      .rename_i hpk;injection hx with hx;injection hx with h1 h2;subst h1;refine .inl ⟨h2.symm,?_⟩;have hpk:=beq_true.1 hpk;have hl:=(hE.region (S:=Y.F) λb o hq=>hq.elim (hF b o) λhq=>by obtain⟨e,M,q1,q2,q3,rfl,q5⟩:=j8 hq;exact hfz hpk cG dF e M hle q1 q5 q2 q3 o).sub off len;refine DR.gp (b:=L.b) (o:=L.o+off*L.sz) (sz:=L.sz) ?_ hlen g3 λh0=>by rw[(g4 (by omega)).1,g1]
       rw[hw];exact hl.mono hF λq _ hq=>hq
      .rename_i hpk;have hpk:=beq_false.1 hpk;split at hx
       .split at hx
        .rename_i xo hr2;injection hx with hx;injection hx with h1 h2;subst h1;obtain⟨L2,hL2,hE2,hg⟩:=l7 h hr2;have AS:xo=els':=by have hr':=hr;unfold qV at hr'<;>grind
         subst AS;rw[hL]at hL2;cases hL2;refine .inr ⟨_,len,sz,h2.symm,rfl,hpk,⟨L,off,a,cap,rfl,g3,hlen,hsz,λhc=>?_⟩⟩;obtain⟨k1,k2⟩:=g4 hc;have hc0:0<L.cap:=by omega
         refine⟨⟨cG,dF,_,hle,⟨hg,rfl⟩,hL⟩,k1,k2,g1,hc0,(hE2.2.2.1 hc0).1,(hE2.2.2.1 hc0).2,λi e j x hi hj=>?_⟩;obtain⟨u,hu,hd⟩:=hE2.2.2.2 (off+i) e j x (ec hi).1 hj<;>grind
        grind
       .split at hx;.cases hx
        .rename_i hr2;injection hx with hx;injection hx with h1 h2;subst h1;refine .inl ⟨h2.symm,?_⟩;have hl:=(hE.region (S:=Y.F) λb o hq=>hq.elim (hF b o) λhq=>by exfalso;obtain⟨e,M,q1,q2,q3,rfl,q5⟩:=j8 hq;have q1:aK cm cG dF=some e:=q1;unfold qV at hr;unfold rowAt at hr2;rw[q1]at hr hr2;cases e with|row v els=>simp only at hr hr2;rw[hr]at hr2;cases hr2|box v cs=>cases hr|mp v ks=>cases hr|OF v els=>cases q5).sub off len;refine DR.gp (b:=L.b) (o:=L.o+off*L.sz) (sz:=L.sz) ?_ hlen g3 λh0=>by rw[(g4 (by omega)).1,g1]
         rw[hw];exact hl.mono hF λq _ hq=>hq
     grind
 |gm f c=>cases c with|nil=>injection hx with hx;injection hx with h1 h2;subst h1;exact .inl ⟨h2.symm,FY hv⟩|cons=>cases hx
 |_=>cases hx
end
end Go.bI
