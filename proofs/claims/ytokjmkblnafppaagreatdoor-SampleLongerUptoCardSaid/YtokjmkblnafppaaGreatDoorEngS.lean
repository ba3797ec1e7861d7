/- Calls that work on the caller's memory. -/
import Derived.Test.YtokjmkblnafppaaGreatDoorEngBox
set_option linter.unusedVariables false
set_option linter.unusedSimpArgs false
namespace Go.bI
open Go Go.RowKit
theorem aM {α β : Type} {x:Option α} {f : α→β} {y : β} (h:x.map f=some y):∃ z,x=some z∧f z=y:=by
 cases x with
 |none=>cases h
 |some z=>exact⟨z,rfl,by injection h⟩
theorem aT {α β : Type} {x:Option α} {f : α→Option β} {y : β} (h:x.bind f=some y):∃ z,x=some z∧f z=some y:=by
 cases x with
 |none=>cases h
 |some z=>exact⟨z,rfl,h⟩
theorem bK {v:AV} {r:fW} (h:eX.pure v=some r):r=.bS { val:=v,cK:=[],cx:=[],rd:=[] }:=by
 unfold eX.pure at h
 injection h with h
 exact h.symm
theorem V1.Cb {X:Cx} {x:AV} {v:Value} (h:fO x=true) (hv:VR X x v):V1 X x v:=by
 cases x with
 |gZ=>cases h
 |_=>exact hv
theorem az.fO {X:Cx} : ∀ {xs:List AV} {vs:List Value},xs.all Go.bI.fO=true→az (VR X) xs vs→az (V1 X) xs vs
 |[],[],_,_=>trivial
 |x :: xs,v :: vs,h,hv=>by
  simp only[List.all_cons,Bool.and_eq_true] at h
  exact⟨V1.Cb h.1 hv.1,az.fO h.2 hv.2⟩
 |[],_ :: _,_,hv=>hv.elim
 |_ :: _,[],_,hv=>hv.elim
theorem nD (m:List (Tr bH)) (lv sl:Nat):aN (m++[.lf]) lv sl=aN m lv sl:=by
 unfold aN
 rw[List.getElem?_append]
 split
 ·rfl
 ·rename_i h
  rw[List.getElem?_eq_none (l:=m) (by omega)]
  cases hk:lv-m.length with
  |zero=>rfl
  |succ k=>rfl
section
variable {P:Program} {X:Cx} {nt:Nat} {s:St} {a:Act} {o:Oper} {dst:Option Nat} {aR:Nat}
theorem Fe {call:Go.bI.Call} (cE:cF P call) (hs:eL X nt s a) (hfr:X.ρ aR=none) (yl:aR<s.nv) (hdom:∀ v,s.nv≤v→X.ρ v=none) {f pk lv sl:Nat} {args:List AV} {bQ:Array Value} {r val:AV} {cm:List (Tr bH)} {ts:Tr Unit} {n':Nat} {us:List (List (List D))} {u:List (Nat×Nat×Option bH)}
  (hargs:az (VR X) args bQ.toList) (hnt:args.all fO=true) (hc:call f args (s.mem++[.lf]) s.aE s.nv=some (r,cm,ts,n')) (hi:fI cm s.mem.length pk lv sl aR r=some (val,us)) (hu:gP lv sl aR us=some u)
  (hrun:(∃ fn,P.funcs[f]?=some fn∧fn.body.isSome=true∧(fn.name == "runtime.NumGoroutine")=false)→(execOp a.eval o).run P X.w=.ok (.enter f bQ) X.w) :
  cU P X s a o dst aR (.all val (bB (cm.take s.mem.length) u) ts n'):=by
 intro K Q hK
 have hm0:aB X (s.mem++[.lf]) s.aE:=hs.mem.congr (fun lv sl=>nD _ _ _) fun _=>rfl
 obtain⟨hfn,oB⟩:=cE f args (s.mem++[.lf]) s.aE s.nv r cm ts n' hc X bQ hm0 hdom (az.fO hnt hargs)
 unfold Oper.wp
 rw[hrun hfn,Oper.upon_enter]
 refine Calls.mono oB ?_
 rintro e w' ⟨Z,v,rfl,rfl,wE,Ri,B9,hn,ZO⟩
 show K (a.put o.dst v) Z.w
 have ZP:Z.ρ aR=none:=by
  cases hz:Z.ρ aR with
  |none=>rfl
  |some L=>
   rcases ZO aR L hz with h|h
   ·rw[hfr] at h;cases h
   ·omega
 have Nc:aB Z (cm.take s.mem.length) ts:=B9.less (fun lv sl e he=>by
  rw[mQ] at he
  split at he
  ·exact he
  ·cases he) fun _ h=>h
 have JU:∀ {k:Nat×Nat×Nat} {v:Nat},Holds (cm.take s.mem.length) ts k v→Holds cm ts k v∧∀ cl cX,s.mem.length≤cl→k≠cg cl cX:=by
  rintro k v (⟨cl,cX,e',rfl,he',jd⟩|⟨rfl,he'⟩)
  ·rw [mQ] at he'
   split at he'
   ·rename_i hlt
    refine⟨.inl ⟨cl,cX,e',rfl,he',jd⟩,fun aij aik hle hq=>?_⟩
    have:=(kO hq).1
    omega
   ·cases he'
  ·exact⟨.inr ⟨rfl,he'⟩,fun _ _ _ hq=>dI hq.symm⟩
 let G:Option Nat→Nat→Nat→Prop:=fun p b _=>some b≠p∧∃ cl cX e L,s.mem.length≤cl∧aN cm cl cX=some e∧e.fz=false∧Z.ρ e.af=some L∧0<L.cap∧L.b=b
 have mk:∀ p,Ext Z (Z.more (G p))∧aB (Z.more (G p)) (cm.take s.mem.length) ts:=by
  intro p
  have hin:∀ b o,G p b o→¬Z.old b∧b<Z.w.heap.size:=by
   rintro b o ⟨_,cl,cX,e,L,_,hg,hz,hL,hc,rfl⟩
   obtain⟨M,hM,h2⟩:=B9.cR (.inl ⟨cl,cX,e,rfl,hg,rfl,hz⟩)
   rw[hL] at hM;injection hM with hM;subst hM
   exact⟨(h2 hc).2,(h2 hc).1⟩
  refine⟨Ext.more fun b o h=>(hin b o h).1,Nc.more hin ?_⟩
  rintro k v M o hk hv tO ⟨_,cl,cX,e,L,hle,hg,hz,hL,hc,hb⟩
  obtain⟨h1,h2⟩:=JU hk
  exact B9.apart _ _ _ _ _ _ h1 (.inl ⟨cl,cX,e,rfl,hg,rfl,hz⟩) (h2 cl cX hle) hv hL tO hc hb.symm
 rcases Dz B9 hi Ri with⟨rfl,hb⟩|⟨els,len,sz,v',rfl,⟨hpk,⟨L,off,ad,cap,g3,g4,g5,g6,U7⟩⟩,hb⟩|hlen
 ·simp only [gP] at hu
  injection hu with hu;subst hu
  obtain⟨y5,y6⟩:=mk none
  refine hK (Z.more (G none)) v (wE.trans y5) (hb (Z.more (G none)) ⟨rfl,fun b o h=>.inl h,fun _ _ _ h=>h,fun _ cl cX e L hle hg hz hL hc o=>.inr ⟨by simp,cl,cX,e,L,hle,hg,hz,hL,hc,rfl⟩⟩) y6 ⟨hn,fun u L hL=>?_⟩
  rcases ZO u L hL with h|h
  ·exact .inl h
  ·exact .inr (.inr h)
 ·simp only [gP] at hu
  injection hu with hu;subst hu
  subst g3
  have g7:=fun hc=>(U7 hc).2
  obtain⟨y5,y6⟩:=mk (some L.b)
  obtain⟨W,w1,w2,w3,w4,w5,w6,w7⟩:=zz (Z:=Z) (Y:=Z.more (G (some L.b))) (lv:=lv) (sl:=sl) (af:=aR) y6 rfl (fun b o h=>.inl h) (fun _ h=>h) ZP g4 g5 g6 g7 fun hc=>⟨fun o h=>by
    rcases h with h|h
    ·exact (g7 hc).2.2.2.2.2.1 o h
    ·exact h.1 rfl,fun k u M hk hM tO=>by
    obtain⟨h1,h2⟩:=JU hk
    obtain⟨cl,cX,e,g0,g1,g2⟩:=(U7 hc).1
    exact B9.apart _ _ _ _ _ _ h1 (.inl ⟨cl,cX,e,rfl,g1.1,rfl,g1.2⟩) (h2 cl cX g0) hM g2 tO (g7 hc).2.2.2.1⟩
  have hxW:Ext (Z.more (G (some L.b))) W:=⟨w3,by rw[w1];exact dO.refl _ _,fun b o h=>by rw[w2];exact h,fun b o _=>by rw[w1],w4,fun b o h=>by rw[w2] at h;exact .inl h⟩
  rw[show Z.w=W.w from w1.symm]
  refine hK W v ((wE.trans y5).trans hxW) (hb W ⟨w1,fun b o h=>by rw[w2];exact .inl h,fun _ u M hM=>w4 u M hM,fun h=>absurd h hpk⟩ w7) w6 ⟨hn,fun u M hM=>?_⟩
  rcases w5 u M hM with h|h
  ·rcases ZO u M h with h | h
   ·exact .inl h
   ·exact .inr (.inr h)
  ·exact .inr (.inl h)
 ·match us, hlen with
  |_ :: _ :: _,_=>simp[gP] at hu
theorem Le {call:Go.bI.Call} (cE:cF P call) (hs:eL X nt s a) (hdom:∀ v,s.nv≤v→X.ρ v=none) {f:Nat} {args:List AV} {bQ:Array Value} {r:fW} (hargs:az (VR X) args bQ.toList) (hr:og call s f args=some r)
  (hrun:(∃ fn,P.funcs[f]?=some fn∧fn.body.isSome=true∧(fn.name == "runtime.NumGoroutine")=false)→(execOp a.eval o).run P X.w=.ok (.enter f bQ) X.w):cU P X s a o dst aR r:=by
 unfold og at hr
 split at hr
 ·cases hr
 ·rename_i hnt
  split at hr
  ·cases hr
  ·rename_i r' cm ts n' hc
   injection hr with hr;subst hr
   intro K Q hK
   have hm0:aB X (s.mem++[.lf]) s.aE:=hs.mem.congr (fun lv sl=>nD _ _ _) fun _=>rfl
   obtain⟨hfn,oB⟩:=cE f args (s.mem++[.lf]) s.aE s.nv r' cm ts n' hc X bQ hm0 hdom (az.fO hnt hargs)
   unfold Oper.wp
   rw[hrun hfn,Oper.upon_enter]
   refine Calls.mono oB ?_
   rintro e w' ⟨Z,v,rfl,rfl,wE,Ri,B9,hn,ZO⟩
   show K (a.put o.dst v) Z.w
   exact hK Z v wE Ri B9 ⟨hn,fun u L hL=>(ZO u L hL).imp id .inr⟩
theorem Lg {call:Go.bI.Call} (cE:cF P call) (hs:eL X nt s a) (hfr:X.ρ aR=none) {f:Nat} {args:List AV} {bQ:Array Value} {r:fW} (hargs:az (VR X) args bQ.toList) (hr:l5 call s aR f args=some r)
  (hrun:(∃ fn,P.funcs[f]?=some fn∧fn.body.isSome=true∧(fn.name == "runtime.NumGoroutine")=false)→(execOp a.eval o).run P X.w=.ok (.enter f bQ) X.w):cU P X s a o dst aR r:=by
 unfold l5 at hr
 split at hr
 ·cases hr
 ·rename_i aK ks hl
  split at hr
  ·cases hr
  ·rename_i r' cm ts n' hc
   split at hr
   ·rename_i v hi
    injection hr with hr;subst hr
    have hV:=Fb hs.mem (ks:=ks) hl hargs fun p hp=>hp
    have:=zA (dst:=dst) cE hs hfr (pk:=0) (lv:=0) (sl:=0) (rd:=args.flatMap dF) hV hc hi (u:=[]) rfl hrun
    rw[List.append_nil] at this
    exact this
   ·cases hr
def Cx.all (X:Cx):Cx:={ w:=X.w,F:=fun b _=>b<X.w.heap.size,ρ:=fun _=>none,old:=fun b=>b<X.w.heap.size }
theorem Lh {call:Go.bI.Call} (cE:cF P call) (hs:eL X nt s a) (hfr:X.ρ aR=none) {f:Nat} {args:List AV} {bQ:Array Value} {r:fW} (hargs:az (VR X) args bQ.toList) (hr:oe call s aR f args=some r)
  (hrun:(∃ fn,P.funcs[f]?=some fn∧fn.body.isSome=true∧(fn.name == "runtime.NumGoroutine")=false)→(execOp a.eval o).run P X.w=.ok (.enter f bQ) X.w):cU P X s a o dst aR r:=by
 unfold oe at hr
 split at hr
 ·cases hr
 ·rename_i aK hl
  split at hr
  ·cases hr
  ·rename_i r' cm ts n' hc
   split at hr
   ·rename_i v hi
    injection hr with hr;subst hr
    have hV:=B8 hs.mem [] hl hargs
    have:=zA (dst:=dst) cE hs hfr (pk:=0) (lv:=0) (sl:=0) (rd:=args.flatMap dF) hV hc hi (ks:=[]) (u:=[]) rfl hrun
    exact this
   ·cases hr
theorem Rk (X:Cx) (hl:US X):aB X.all [.lf] .lf:=by
 refine⟨fun lv sl e he=>?_,fun v hv=>by simp at hv,fun k k' v v' L L' _ _ _ hv _ _ _=>?_,fun _ _ h=>h,fun _ h=>h,fun b hb=>hl.lt b (hl.gb b hb),hl.gk⟩
 ·exfalso
  unfold aN at he
  cases lv with
  |zero=>simp at he
  |succ lv=>simp at he
 ·cases hv
theorem zE {m:List (Tr bH)} {t:Tr Unit} (h:aB X m t) {x:AV} {y:D} {v:Value} (hx:fP m x=some y) (hv:VC X x v):DR X.w X.all.F y v:=by
 have hsub:∀ b o,X.F b o→X.all.F b o:=fun b o hb=>h.mI b o hb
 have HV:∀ {els a cap sz b o} {R:Nat→Nat→Prop},v=.slice a els.length cap→els.length≤cap→(0<els.length→a=some ⟨b,o,none⟩)→eW X.w X.F R els b o sz→DR X.w X.all.F (.sl els) v:=by
  rintro els a cap sz b o R rfl h2 h3 h4
  exact DR.fL (h4.mono hsub fun q hq _=>JS hq) rfl h2 h3
 cases x with
 |d x=>simp only[fP] at hx;injection hx with hx;subst hx;exact DR.mono hsub hv
 |own els ow=>
  simp only[fP] at hx;injection hx with hx;subst hx
  cases ow with
  |full=>obtain⟨a,b,o,sz,h1,h2,h3⟩:=hv;exact HV h1 (Nat.le_refl _) h2 h3
  |cx af tz=>obtain⟨a,b,o,sz,cap,h1,h2,h3,h4,_⟩:=hv;exact HV h1 h2 (fun h=>h3 (by omega)) h4
  |aJ=>obtain⟨a,b,o,sz,cap,h1,h2,h3,h4⟩:=hv;exact HV h1 h2 h3 h4
 | ref lv sl af off len sz =>
  simp only[fP] at hx
  cases he:dK m (.ref lv sl af off len sz) with
  |none=>rw[he] at hx;cases hx
  |some els=>
   rw[he] at hx
   simp only[Option.map_some] at hx
   injection hx with hx;subst hx
   obtain⟨a,cap,sz',b,o,h1,h2,h3,h4⟩:=pX h he (.fQ hv)
   exact HV h1 h2 h3 h4
 |_=>cases hx
theorem Cc {m:List (Tr bH)} {t:Tr Unit} (h:aB X m t):∀ {xs:List AV} {ys:List D} {vs:List Value},gh m xs=some ys→az (VC X) xs vs→az (DR X.w X.all.F) ys vs
 |[],ys,[],hx,_=>by simp only[gh] at hx;injection hx with hx;subst hx;trivial
 | x :: xs, ys, v :: vs, hx, hv => by
  simp only[gh] at hx
  split at hx
  ·rename_i y ys' h1 h2
   injection hx with hx;subst hx
   exact⟨zE h h1 hv.1,Cc h h2 hv.2⟩
  ·cases hx
 |[],_,_ :: _,_,hv=>hv.elim
 |_ :: _,_,[],_,hv=>hv.elim
theorem Cd {α : Type} {sz:Nat} : ∀ {n:Nat} {l:List α},l.length=n*sz→(chunk sz n l).length=n∧(∀ e∈chunk sz n l,e.length=sz)∧∀ (i j:Nat) e x,(chunk sz n l)[i]?=some e→e[j]?=some x→j<sz∧i<n∧l[i*sz+j]?=some x
 |0,l,h=>⟨rfl,fun e he=>(by cases he),fun i j e x h1 _=>by simp[chunk] at h1⟩
 | n + 1, l, h => by
  have hl:(l.drop sz).length=n*sz:=by rw[List.length_drop,h,Nat.succ_mul];omega
  obtain⟨h1,h2,h3⟩:=Cd (sz:=sz) hl
  have ht:(l.take sz).length=sz:=by rw[List.length_take,h,Nat.succ_mul];omega
  refine⟨by simp[chunk,h1],fun e he=>?_,fun i j e x he hx=>?_⟩
  ·simp only [chunk, List.mem_cons] at he
   rcases he with rfl|he
   ·exact ht
   ·exact h2 e he
  ·cases i with
   | zero =>
    simp only[chunk,List.getElem?_cons_zero,Option.some.injEq] at he
    subst he
    have hj:j<sz:=by
     have:=(List.getElem?_eq_some_iff.1 hx).1
     omega
    rw[List.getElem?_take,if_pos hj] at hx
    exact⟨hj,by omega,by rw[Nat.zero_mul,Nat.zero_add];exact hx⟩
   |succ i=>
    simp only[chunk,List.getElem?_cons_succ] at he
    obtain⟨g1,g2,g3⟩:=h3 i j e x he hx
    refine⟨g1,by omega,?_⟩
    rw[List.getElem?_drop] at g3
    rw[Nat.succ_mul,show i*sz+sz+j=sz+(i*sz+j) by omega]
    exact g3
theorem Rl {m:List (Tr bH)} {t:Tr Unit} (h:aB X m t) {x y:AV} {v:Value} (hx:jI m x=some y) (hv:VR X x v):V1 X.all y v:=by
 have one:∀ {x:AV},(fP m x).map AV.d=some y→VC X x v→V1 X.all y v:=by
  intro x hx hv
  obtain⟨d,hd,rfl⟩:=aM hx
  exact .fQ (zE h hd hv)
 cases x with
 |agg cs=>
  simp only[jI] at hx
  obtain⟨ds,hd,rfl⟩:=aM hx
  obtain⟨vs,rfl,h3⟩:=hv
  exact⟨vs,rfl,(Cc h hd h3).U1 (X:=X.all)⟩
 |fV f c=>
  cases c with
  |nil=>simp only[jI] at hx;injection hx with hx;subst hx;exact .fQ (Dy hv)
  |cons=>simp[jI,fP] at hx
 | eH lv sl af off n sz =>
  simp only[jI] at hx
  split at hx
  ·rename_i cs hb
   split at hx
   ·rename_i hoff
    obtain⟨ds,hd,rfl⟩:=aM hx
    obtain⟨L,hL,rfl,hn⟩:=hv
    have hg:aN m lv sl=some (.box af cs):=by
     unfold fX at hb
     split at hb
     ·rename_i v cs' hm
      split at hb
      ·rename_i hv
       injection hb with hb;subst hb
       rw[hm,beq_true.1 hv]
      ·cases hb
     ·cases hb
    obtain⟨L',hL',hE⟩:=h.ec lv sl _ hg
    have hL':X.ρ af=some L':=hL'
    rw[hL] at hL';injection hL' with hL';subst hL'
    obtain⟨_,hblk,hno,hcell⟩:=hE
    have hlen:((cs.drop off).take (n*sz)).length=n*sz:=by simp;omega
    have hdl:ds.length=n*sz:=by
     have:∀ {xs:List AV} {ys:List D},gh m xs=some ys→ys.length=xs.length:=by
      intro xs
      induction xs with
      |nil=>intro ys h;simp only[gh] at h;injection h with h;subst h;rfl
      |cons x xs ih=>
       intro ys h
       simp only[gh] at h
       split at h
       ·rename_i h2;injection h with h;subst h;simp[ih h2]
       ·cases h
     rw[this hd,hlen]
    obtain⟨c1,c2,c3⟩:=Cd hdl
    refine .fQ (DR.fL (b:=L.b) (o:=L.o+off) (sz:=sz) ⟨c2,fun i e j x h1 h2=>?_⟩ c1 (Nat.le_refl _) fun _=>rfl)
    obtain⟨g1,g2,g3⟩:=c3 i j e x h1 h2
    refine⟨hblk.lt,?_⟩
    have cell:∀ {xs:List AV} {ys:List D},gh m xs=some ys→∀ (k:Nat) (y:D),ys[k]?=some y→∃ a,xs[k]?=some a∧fP m a=some y:=by
     intro xs
     induction xs with
     |nil=>intro ys h k y hk;simp only[gh] at h;injection h with h;subst h;simp at hk
     | cons a xs ih =>
      intro ys h k y hk
      simp only[gh] at h
      split at h
      ·rename_i z zs h1 h2
       injection h with h;subst h
       cases k with
       |zero=>simp only[List.getElem?_cons_zero,Option.some.injEq] at hk;subst hk;exact⟨a,rfl,h1⟩
       |succ k=>simpa using ih h2 k y (by simpa using hk)
      ·cases h
    obtain⟨a,ha,hca⟩:=cell hd _ _ g3
    rw[List.getElem?_take] at ha
    split at ha
    ·rw [List.getElem?_drop] at ha
     obtain⟨u,hu,ZK⟩:=hcell _ _ ha
     refine⟨u,?_,zE h hca ZK⟩
     rw[show L.o+off+i*sz+j=L.o+(off+(i*sz+j)) by omega]
     exact hu
    ·cases ha
   ·cases hx
  ·cases hx
 |gZ cs=>simp[jI,fP] at hx
 |_=>simp only[jI] at hx;exact one hx hv
theorem Ff {m:List (Tr bH)} {t:Tr Unit} (h:aB X m t):∀ {xs ys:List AV} {vs:List Value},rR m xs=some ys→az (VR X) xs vs→az (V1 X.all) ys vs
 |[],ys,[],hx,_=>by simp only[rR] at hx;injection hx with hx;subst hx;trivial
 | x :: xs, ys, v :: vs, hx, hv => by
  simp only[rR] at hx
  split at hx
  ·rename_i y ys' h1 h2
   injection hx with hx;subst hx
   exact⟨Rl h h1 hv.1,Ff h h2 hv.2⟩
  ·cases hx
 |[],_,_ :: _,_,hv=>hv.elim
 |_ :: _,_,[],_,hv=>hv.elim
theorem zF {A B:Cx} {x:AV} {v:Value} (h:yX x=true) (hv:VC A x v):VC B x v:=by
 unfold yX at h
 split at h
 ·cases hv with
  |sc v h1=>exact DR.sc v h1
 ·cases hv with
  |sl els a n cap sz b o g hn hcap hsz ha hF hc hr=>exact DR.sl [] a n cap sz b o g hn hcap (fun _ h=>by cases h) ha (fun _ _ _ _ h=>by cases h) (fun _ _ _ _ h=>by cases h) (fun _ _ _ _ h=>by cases h)
 ·cases h
theorem wJ {A B:Cx} : ∀ {xs:List AV} {vs:List Value},xs.all yX=true→az (VC A) xs vs→az (VC B) xs vs
 |[],[],_,_=>trivial
 |x :: xs,v :: vs,h,hv=>by
  rw[List.all_cons,Bool.and_eq_true] at h
  exact⟨zF h.1 hv.1,wJ h.2 hv.2⟩
 |[],_ :: _,_,hv=>hv.elim
 |_ :: _,[],_,hv=>hv.elim
theorem sI {A B:Cx} {x:AV} {v:Value} (h:BS x=true) (hv:V1 A x v):V1 B x v:=by
 cases x with
 |agg cs=>obtain⟨vs,rfl,h3⟩:=hv;exact⟨vs,rfl,wJ h h3⟩
 |d x=>exact .fQ (zF (A:=A) h hv)
 |_=>cases h
theorem wK {A B:Cx} : ∀ {xs:List AV} {vs:List Value},xs.all BS=true→az (V1 A) xs vs→az (V1 B) xs vs
 |[],[],_,_=>trivial
 |x :: xs,v :: vs,h,hv=>by
  rw[List.all_cons,Bool.and_eq_true] at h
  exact⟨sI h.1 hv.1,wK h.2 hv.2⟩
 |[],_ :: _,_,hv=>hv.elim
 |_ :: _,[],_,hv=>hv.elim
theorem HZ {A B:Cx} {x:AV} {v:Value} (h:M3 x=true) (hv:VR A x v):VR B x v:=by
 cases x with
 |gZ cs=>obtain⟨vs,rfl,h3⟩:=hv;exact⟨vs,rfl,wK h h3⟩
 |agg cs=>exact .tH (sI (A:=A) h hv)
 |d x=>exact .tH (sI (A:=A) h hv)
 |_=>cases h
theorem Ce {call:Go.bI.Call} (cE:cF P call) (hs:eL X nt s a) {f:Nat} {args:List AV} {bQ:Array Value} {r:fW}
  (hargs:az (VR X) args bQ.toList) (hr:jJ call s f args=some r)
  (hrun:(∃ fn,P.funcs[f]?=some fn∧fn.body.isSome=true∧(fn.name == "runtime.NumGoroutine")=false)→(execOp a.eval o).run P X.w=.ok (.enter f bQ) X.w):cU P X s a o dst aR r:=by
 unfold jJ at hr
 split at hr
 ·cases hr
 ·rename_i aK hl
  split at hr
  ·cases hr
  ·rename_i r' cm ts n' hc
   split at hr
   case h_2=>cases hr
   rename_i v hi
   split at hr
   case h_2=>cases hr
   rename_i hfl
   injection hr with hr;subst hr
   intro K Q hK
   have hV:=Ff hs.mem hl hargs
   obtain⟨hfn,oB⟩:=cE f aK [.lf] .lf 0 r' cm ts n' hc X.all bQ (Rk X hs.mem.oq) (fun _ _=>rfl) hV
   unfold Oper.wp
   rw[hrun hfn,Oper.upon_enter]
   refine Calls.mono oB ?_
   rintro e w' ⟨Z,v',rfl,rfl,wE,Ri,B9,_,_⟩
   show K (a.put o.dst v') Z.w
   have hblk:∀ b,b<X.w.heap.size→Z.w.heap[b]?=X.w.heap[b]?:=fun b hb=>wE.below.block b hb
   let Y:Cx:={ w:=Z.w,F:=X.F,ρ:=X.ρ,old:=X.old }
   have hx:Ext X Y:=⟨rfl,wE.below.mono hs.mem.low,fun _ _ h=>h,fun b o h=>wE.keep b o (hs.mem.mI b o h),fun _ _ h=>h,fun _ _ h=>.inl h⟩
   have hm:aB Y s.mem s.aE:=hs.mem.move hx (fun k v L hk hv hc=>by
     obtain⟨M,hM,h2⟩:=hs.mem.cR hk
     rw[hv] at hM;injection hM with hM;subst hM
     exact hblk _ (h2 hc).1) (fun _ _ _ _ _ _ _ h=>h) fun b o h=>Nat.lt_of_lt_of_le (hs.mem.mI b o h) wE.below.size
   have hvr:VR Y v v':=by
    rcases Dz B9 hi Ri with⟨_,hb⟩|⟨_,_,_,_,h,_⟩|h
    ·exact HZ hfl (hb { Z with F:=fun _ _=>True } ⟨rfl,fun _ _ _=>trivial,fun h=>absurd h (by omega),fun _ _ _ _ _ _ _ _ _ _ _=>trivial⟩)
    ·cases h
    ·simp at h
   refine hK Y v' hx hvr ?_ (eC.Dr rfl)
   exact hm
theorem vr {call:Go.bI.Call} (cE:cF P call) (hs:eL X nt s a) (hfr:X.ρ aR=none) (yl:aR<s.nv) (hdom:∀ v,s.nv≤v→X.ρ v=none) {shared:Bool} {f pk lv sl:Nat} {args:List AV} {bQ:Array Value} {r:fW}
  (hargs:az (VR X) args bQ.toList) (hr:fe call shared pk s lv sl aR f args=some r)
  (hrun:(∃ fn,P.funcs[f]?=some fn∧fn.body.isSome=true∧(fn.name == "runtime.NumGoroutine")=false)→(execOp a.eval o).run P X.w=.ok (.enter f bQ) X.w):cU P X s a o dst aR r:=by
 unfold fe at hr
 split at hr
 ·split at hr
  ·rename_i hba
   rw[HX hba] at hargs
   exact Nu cE hs hargs hr hrun
  split at hr
  ·cases hr
  ·rename_i aK ks hl
   split at hr
   ·cases hr
   ·rename_i r' cm ts n' hc
    split at hr
    ·cases hr
    ·rename_i v us hi
     split at hr
     ·cases hr
     ·rename_i u hu
      injection hr with hr;subst hr
      exact zA cE hs hfr (Fa hs.mem (ks:=ks) hl hargs fun p hp=>hp) hc hi hu hrun
 ·split at hr
  ·cases hr
  ·rename_i hnt
   split at hr
   ·cases hr
   ·rename_i r' cm ts n' hc
    split at hr
    ·cases hr
    ·rename_i v us hi
     split at hr
     ·cases hr
     ·rename_i u hu
      injection hr with hr;subst hr
      exact Fe cE hs hfr yl hdom hargs hnt hc hi hu hrun
end
end Go.bI
