/- Calls that work on the caller's memory. -/
import Derived.Test.YthphehfgekjooaaGreatDoorEngBox
set_option linter.unusedVariables false
set_option linter.unusedSimpArgs false
namespace Go.bq
open Go Go.RowKit
theorem aG {α β : Type} {x:Option α} {f : α→β} {y : β} (h:x.map f=some y):∃ z,x=some z∧f z=y:=by
 simp_all
theorem aJ {α β : Type} {x:Option α} {f : α→Option β} {y : β} (h:x.bind f=some y):∃ z,x=some z∧f z=some y:=by
 cases x with
 |none=>cases h
 |some z=>grind
theorem bt {v:AV} {r:cR} (h:eU.pure v=some r):r=.bC { val:=v,cv:=[],bR:=[],rd:=[] }:=by
 grind[eU.pure]
theorem V1.CZ {X:Cx} {x:AV} {v:Value} (h:eY x=true) (hv:VR X x v):V1 X x v:=by
 cases x with
 |gN=>cases h
 |_=>exact hv
theorem aq.eY {X:Cx} : ∀ {xs:List AV} {vs:List Value},xs.all Go.bq.eY=true→aq (VR X) xs vs→aq (V1 X) xs vs
 |[],[],_,_=>trivial
 |x :: xs,v :: vs,h,hv=>by
  simp only[List.all_cons,Bool.and_eq_true] at h
  exact⟨V1.CZ h.1 hv.1,aq.eY h.2 hv.2⟩
 |[],_ :: _,_,hv=>hv.elim
 |_ :: _,[],_,hv=>hv.elim
theorem oh (m:List (Tr aZ)) (lv sl:Nat):aC (m++[.lf]) lv sl=aC m lv sl:=by
 unfold aC
 grind[Tr.get?]
section
variable {P:Program} {X:Cx} {nt:Nat} {s:St} {a:Act} {o:Oper} {dst:Option Nat} {aH:Nat}
theorem GZ {call:Go.bq.Call} (cc:bX P call) (hs:eC X nt s a) (hfr:X.ρ aH=none) (z8:aH<s.nv) (hdom:∀ v,s.nv≤v→X.ρ v=none) {f pk lv sl:Nat} {args:List AV} {bu:Array Value} {r val:AV} {cm:List (Tr aZ)} {ts:Tr Unit} {n':Nat} {us:List (List (List D))} {u:List (Nat×Nat×Option aZ)}
  (hargs:aq (VR X) args bu.toList) (hnt:args.all eY=true) (hc:call f args (s.mem++[.lf]) s.aB s.nv=some (r,cm,ts,n')) (hi:fF cm s.mem.length pk lv sl aH r=some (val,us)) (hu:jA lv sl aH us=some u)
  (hrun:(∃ fn,P.funcs[f]?=some fn∧fn.body.isSome=true∧(fn.name == "runtime.NumGoroutine")=false)→(execOp a.eval o).run P X.w=.ok (.enter f bu) X.w) :
  cD P X s a o dst aH (.all val (aX (cm.take s.mem.length) u) ts n'):=by
 intro K Q hK
 have hm0:aA X (s.mem++[.lf]) s.aB:=hs.mem.congr (fun lv sl=>oh _ _ _) fun _=>rfl
 obtain⟨hfn,pJ⟩:=cc f args (s.mem++[.lf]) s.aB s.nv r cm ts n' hc X bu hm0 hdom (aq.eY hnt hargs)
 unfold Oper.wp
 rw[hrun hfn]
 refine Calls.mono pJ ?_
 rintro e w' ⟨Z,v,rfl,rfl,yZ,Uk,CX,hn,hdZ⟩
 have ac3:Z.ρ aH=none:=by
  cases hz:Z.ρ aH with
  |none=>rfl
  |some L=>
   grind
 have PZ:aA Z (cm.take s.mem.length) ts:=CX.less (fun lv sl e he=>by
  rw[nG] at he
  split at he
  ·exact he
  ·cases he) fun _ h=>h
 have Md:∀ {k:Nat×Nat×Nat} {v:Nat},Holds (cm.take s.mem.length) ts k v→Holds cm ts k v∧∀ bV cS,s.mem.length≤bV→k≠bw bV cS:=by
  rintro k v (⟨bV,cS,e',rfl,he',lU⟩|⟨rfl,he'⟩)
  ·rw [nG] at he'
   split at he'
   ·refine ⟨.inl ⟨bV, cS, e', rfl, he', lU⟩, fun ak2 ak3 hle hq => ?_⟩
    have:=(qI hq).1<;>omega
   grind
  ·exact⟨.inr ⟨rfl,he'⟩,fun _ _ _ hq=>dI hq.symm⟩
 let G:Option Nat→Nat→Nat→Prop:=fun p b _=>some b≠p∧∃ bV cS e L,s.mem.length≤bV∧aC cm bV cS=some e∧e.fz=false∧Z.ρ e.aa=some L∧0<L.cap∧L.b=b
 have mk:∀ p,Ext Z (Z.more (G p))∧aA (Z.more (G p)) (cm.take s.mem.length) ts:=by
  intro p
  have hin:∀ b o,G p b o→¬Z.old b∧b<Z.w.heap.size:=by
   rintro b o ⟨_,bV,cS,e,L,_,hg,hz,hL,hc,rfl⟩
   obtain⟨M,hM,h2⟩:=CX.cz (.inl ⟨bV,cS,e,rfl,hg,rfl,hz⟩)<;>grind
  refine⟨Ext.more fun b o h=>(hin b o h).1,PZ.more hin ?_⟩
  rintro k v M o hk hv vT ⟨_,bV,cS,e,L,hle,hg,hz,hL,hc,hb⟩
  obtain⟨h1,h2⟩:=Md hk
  exact CX.apart _ _ _ _ _ _ h1 (.inl ⟨bV,cS,e,rfl,hg,rfl,hz⟩) (h2 bV cS hle) hv hL vT hc hb.symm
 rcases EH CX hi Uk with⟨rfl,hb⟩|⟨els,len,sz,v',rfl,⟨hpk,⟨L,off,ad,cap,g3,g4,g5,g6,Zi⟩⟩,hb⟩|hlen
 ·cases hu
  obtain⟨y5,y6⟩:=mk none
  refine hK (Z.more (G none)) v (yZ.trans y5) (hb (Z.more (G none)) ⟨rfl,fun b o h=>.inl h,fun _ _ _ h=>h,fun _ bV cS e L hle hg hz hL hc o=>.inr ⟨by simp,bV,cS,e,L,hle,hg,hz,hL,hc,rfl⟩⟩) y6 ⟨hn,fun u L hL=>?_⟩
  rcases hdZ u L hL with h|h
  ·grind
  ·exact .inr (.inr h)
 ·cases hu
  subst g3
  have g7:=fun hc=>(Zi hc).2
  obtain⟨y5,y6⟩:=mk (some L.b)
  obtain⟨W,w1,w2,w3,w4,w5,w6,w7⟩:=zY (Z:=Z) (Y:=Z.more (G (some L.b))) (lv:=lv) (sl:=sl) (aa:=aH) y6 rfl (fun b o h=>.inl h) (fun _ h=>h) ac3 g4 g5 g6 g7 fun hc=>⟨fun o h=>by
    rcases h with h|h
    ·exact (g7 hc).2.2.2.2.2.1 o h
    ·exact h.1 rfl,fun k u M hk hM vT=>by
    obtain⟨h1,h2⟩:=Md hk
    obtain⟨bV,cS,e,g0,g1,g2⟩:=(Zi hc).1
    exact CX.apart _ _ _ _ _ _ h1 (.inl ⟨bV,cS,e,rfl,g1.1,rfl,g1.2⟩) (h2 bV cS g0) hM g2 vT (g7 hc).2.2.2.1⟩
  have hxW:Ext (Z.more (G (some L.b))) W:=⟨w3,by rw[w1];exact dK.refl _ _,fun b o h=>by rw[w2];exact h,fun b o _=>by rw[w1],w4,fun b o h=>by rw[w2] at h;exact .inl h⟩
  rw[show Z.w=W.w from w1.symm]
  refine hK W v ((yZ.trans y5).trans hxW) (hb W ⟨w1,fun b o h=>by rw[w2];exact .inl h,fun _ u M hM=>w4 u M hM,fun h=>absurd h hpk⟩ w7) w6 ⟨hn,fun u M hM=>?_⟩
  rcases w5 u M hM with h|h
  ·rcases hdZ u M h with h | h
   ·exact .inl h
   ·exact .inr (.inr h)
  omega
 ·match us, hlen with
  |_ :: _ :: _,_=>simp[jA] at hu
theorem Nx {call:Go.bq.Call} (cc:bX P call) (hs:eC X nt s a) (hdom:∀ v,s.nv≤v→X.ρ v=none) {f:Nat} {args:List AV} {bu:Array Value} {r:cR} (hargs:aq (VR X) args bu.toList) (hr:o8 call s f args=some r)
  (hrun:(∃ fn,P.funcs[f]?=some fn∧fn.body.isSome=true∧(fn.name == "runtime.NumGoroutine")=false)→(execOp a.eval o).run P X.w=.ok (.enter f bu) X.w):cD P X s a o dst aH r:=by
 unfold o8 at hr
 split at hr
 ·cases hr
 ·rename_i hnt
  split at hr
  ·cases hr
  ·rename_i r' cm ts n' hc
   cases hr
   intro K Q hK
   have hm0:aA X (s.mem++[.lf]) s.aB:=hs.mem.congr (fun lv sl=>oh _ _ _) fun _=>rfl
   obtain⟨hfn,pJ⟩:=cc f args (s.mem++[.lf]) s.aB s.nv r' cm ts n' hc X bu hm0 hdom (aq.eY hnt hargs)
   unfold Oper.wp
   rw[hrun hfn]
   refine Calls.mono pJ ?_
   rintro e w' ⟨Z,v,rfl,rfl,yZ,Uk,CX,hn,hdZ⟩
   exact hK Z v yZ Uk CX ⟨hn,fun u L hL=>(hdZ u L hL).imp id .inr⟩
theorem Ny {call:Go.bq.Call} (cc:bX P call) (hs:eC X nt s a) (hfr:X.ρ aH=none) {f:Nat} {args:List AV} {bu:Array Value} {r:cR} (hargs:aq (VR X) args bu.toList) (hr:mK call s aH f args=some r)
  (hrun:(∃ fn,P.funcs[f]?=some fn∧fn.body.isSome=true∧(fn.name == "runtime.NumGoroutine")=false)→(execOp a.eval o).run P X.w=.ok (.enter f bu) X.w):cD P X s a o dst aH r:=by
 unfold mK at hr
 split at hr
 ·cases hr
 ·rename_i aD ks hl
  split at hr
  ·cases hr
  ·rename_i r' cm ts n' hc
   split at hr
   ·rename_i v hi
    have hV:=GX hs.mem (ks:=ks) hl hargs fun p hp=>hp
    have:=zZ (dst:=dst) cc hs hfr (pk:=0) (lv:=0) (sl:=0) (rd:=args.flatMap dA) hV hc hi (u:=[]) rfl hrun<;>grind
   grind
def Cx.all (X:Cx):Cx:={ w:=X.w,F:=fun b _=>b<X.w.heap.size,ρ:=fun _=>none,old:=fun b=>b<X.w.heap.size }
theorem Nz {call:Go.bq.Call} (cc:bX P call) (hs:eC X nt s a) (hfr:X.ρ aH=none) {f:Nat} {args:List AV} {bu:Array Value} {r:cR} (hargs:aq (VR X) args bu.toList) (hr:o7 call s aH f args=some r)
  (hrun:(∃ fn,P.funcs[f]?=some fn∧fn.body.isSome=true∧(fn.name == "runtime.NumGoroutine")=false)→(execOp a.eval o).run P X.w=.ok (.enter f bu) X.w):cD P X s a o dst aH r:=by
 unfold o7 at hr
 split at hr
 ·cases hr
 ·rename_i aD hl
  split at hr
  ·cases hr
  ·rename_i r' cm ts n' hc
   split at hr
   ·rename_i v hi
    cases hr
    have hV:=CV hs.mem [] hl hargs
    have:=zZ (dst:=dst) cc hs hfr (pk:=0) (lv:=0) (sl:=0) (rd:=args.flatMap dA) hV hc hi (ks:=[]) (u:=[]) rfl hrun
    exact this
   grind
theorem Um (X:Cx) (hl:Y3 X):aA X.all [.lf] .lf:=by
 refine⟨fun lv sl e he=>?_,fun v hv=>by simp at hv,fun k k' v v' L L' _ _ _ hv _ _ _=>?_,fun _ _ h=>h,fun _ h=>h,fun b hb=>hl.lt b (hl.gb b hb),hl.gk⟩
 ·unfold aC at he
  grind[Tr.get?,l7,aZ.aa,Cx.all]
 ·cases hv
theorem Aa {m:List (Tr aZ)} {t:Tr Unit} (h:aA X m t) {x:AV} {y:D} {v:Value} (hx:gw m x=some y) (hv:VC X x v):DR X.w X.all.F y v:=by
 have hsub:∀ b o,X.F b o→X.all.F b o:=fun b o hb=>h.ni b o hb
 have Qi:∀ {els a cap sz b o} {R:Nat→Nat→Prop},v=.slice a els.length cap→els.length≤cap→(0<els.length→a=some ⟨b,o,none⟩)→dH X.w X.F R els b o sz→DR X.w X.all.F (.sl els) v:=by
  rintro els a cap sz b o R rfl h2 h3 h4
  exact DR.fD (h4.mono hsub fun q hq _=>Mb hq) rfl h2 h3
 cases x with
 |d x=>cases hx;exact DR.mono hsub hv
 |own els ow=>
  cases hx
  cases ow with
  |full=>obtain⟨a,b,o,sz,h1,h2,h3⟩:=hv<;>grind
  |bR aa tz=>obtain⟨a,b,o,sz,cap,h1,h2,h3,h4,_⟩:=hv<;>grind
  |bB=>obtain⟨a,b,o,sz,cap,h1,h2,h3,h4⟩:=hv<;>grind
 | ref lv sl aa off len sz =>
  simp[gw] at hx
  cases he:cH m (.ref lv sl aa off len sz) with
  |none=>grind
  |some els=>
   obtain⟨a,cap,sz',b,o,h1,h2,h3,h4⟩:=qM h he (.eL hv)<;>grind
 |_=>cases hx
theorem C0 {m:List (Tr aZ)} {t:Tr Unit} (h:aA X m t):∀ {xs:List AV} {ys:List D} {vs:List Value},gP m xs=some ys→aq (VC X) xs vs→aq (DR X.w X.all.F) ys vs
 |[],ys,[],hx,_=>by cases hx;trivial
 | x :: xs, ys, v :: vs, hx, hv => by
  simp[gP] at hx
  split at hx
  ·rename_i y ys' h1 h2
   cases hx
   exact⟨Aa h h1 hv.1,C0 h h2 hv.2⟩
  grind
 |[],_,_ :: _,_,hv=>hv.elim
 |_ :: _,_,[],_,hv=>hv.elim
theorem C1 {α : Type} {sz:Nat} : ∀ {n:Nat} {l:List α},l.length=n*sz→(chunk sz n l).length=n∧(∀ e∈chunk sz n l,e.length=sz)∧∀ (i j:Nat) e x,(chunk sz n l)[i]?=some e→e[j]?=some x→j<sz∧i<n∧l[i*sz+j]?=some x
 |0,l,h=>⟨rfl,fun e he=>(by cases he),fun i j e x h1 _=>by simp[chunk] at h1⟩
 | n + 1, l, h => by
  have hl:(l.drop sz).length=n*sz:=by rw[List.length_drop,h,Nat.succ_mul];omega
  obtain⟨h1,h2,h3⟩:=C1 (sz:=sz) hl
  have ht:(l.take sz).length=sz:=by rw[List.length_take,h,Nat.succ_mul];omega
  refine⟨by simp[chunk,h1],fun e he=>?_,fun i j e x he hx=>?_⟩
  ·simp [chunk, List.mem_cons] at he
   rcases he with rfl|he
   ·exact ht
   ·exact h2 e he
  ·cases i with
   | zero =>
    cases he
    have hj:j<sz:=by
     have:=(List.getElem?_eq_some_iff.1 hx).1
     omega
    rw[List.getElem?_take,if_pos hj] at hx
    exact⟨hj,by omega,by rw[Nat.zero_mul,Nat.zero_add];exact hx⟩
   |succ i=>
    obtain⟨g1,g2,g3⟩:=h3 i j e x he hx
    refine⟨g1,by omega,?_⟩
    simp at g3
    rw[Nat.succ_mul,show i*sz+sz+j=sz+(i*sz+j) by omega]
    exact g3
theorem Un {m:List (Tr aZ)} {t:Tr Unit} (h:aA X m t) {x y:AV} {v:Value} (hx:j8 m x=some y) (hv:VR X x v):V1 X.all y v:=by
 have one:∀ {x:AV},(gw m x).map AV.d=some y→VC X x v→V1 X.all y v:=by
  intro x hx hv
  obtain⟨d,hd,rfl⟩:=aG hx
  exact .eL (Aa h hd hv)
 cases x with
 |agg cs=>
  obtain⟨ds,hd,rfl⟩:=aG hx
  obtain⟨vs,rfl,h3⟩:=hv
  exact⟨vs,rfl,(C0 h hd h3).Zb (X:=X.all)⟩
 |fB f c=>
  cases c with
  |nil=>cases hx;exact .eL (EG hv)
  |cons=>simp[j8,gw] at hx
 | eA lv sl aa off n sz =>
  simp[j8] at hx
  split at hx
  ·rename_i cs hb
   split at hx
   ·obtain ⟨ds, hd, rfl⟩ := aG hx
    obtain⟨L,hL,rfl,hn⟩:=hv
    have hg:aC m lv sl=some (.box aa cs):=by
     unfold fK at hb
     split at hb
     ·split at hb
      ·simp_all
      ·cases hb
     ·cases hb
    obtain⟨L',hL',hE⟩:=h.dW lv sl _ hg
    have hL':X.ρ aa=some L':=hL'
    rw[hL] at hL';cases hL'
    obtain⟨_,hblk,hno,hcell⟩:=hE
    have hlen:((cs.drop off).take (n*sz)).length=n*sz:=by simp;omega
    have hdl:ds.length=n*sz:=by
     have:∀ {xs:List AV} {ys:List D},gP m xs=some ys→ys.length=xs.length:=by
      intro xs
      induction xs with
      |nil=>intro ys h;cases h;rfl
      |cons x xs ih=>
       intro ys h
       simp[gP] at h
       split at h
       ·rename_i h2;cases h;simp[ih h2]
       ·cases h
     rw[this hd,hlen]
    obtain⟨c1,c2,c3⟩:=C1 hdl
    refine .eL (DR.fD (b:=L.b) (o:=L.o+off) (sz:=sz) ⟨c2,fun i e j x h1 h2=>?_⟩ c1 (Nat.le_refl _) fun _=>rfl)
    obtain⟨g1,g2,g3⟩:=c3 i j e x h1 h2
    refine⟨hblk.lt,?_⟩
    have cell:∀ {xs:List AV} {ys:List D},gP m xs=some ys→∀ (k:Nat) (y:D),ys[k]?=some y→∃ a,xs[k]?=some a∧gw m a=some y:=by
     intro xs
     induction xs with
     |nil=>intro ys h k y hk;cases h;simp at hk
     | cons a xs ih =>
      intro ys h k y hk
      simp[gP] at h
      split at h
      ·rename_i z zs h1 h2
       cases h
       cases k with
       |zero=>cases hk;exact⟨a,rfl,h1⟩
       |succ k=>simpa using ih h2 k y (by simpa using hk)
      ·cases h
    obtain⟨a,ha,hca⟩:=cell hd _ _ g3
    rw[List.getElem?_take] at ha
    split at ha
    ·simp at ha
     obtain⟨u,hu,hvc⟩:=hcell _ _ ha
     refine⟨u,?_,Aa h hca hvc⟩
     rw[show L.o+off+i*sz+j=L.o+(off+(i*sz+j)) by omega]
     exact hu
    ·cases ha
   grind
  grind
 |gN cs=>simp[j8,gw] at hx
 |_=>simp only[j8] at hx;exact one hx hv
theorem G0 {m:List (Tr aZ)} {t:Tr Unit} (h:aA X m t):∀ {xs ys:List AV} {vs:List Value},ur m xs=some ys→aq (VR X) xs vs→aq (V1 X.all) ys vs
 |[],ys,[],hx,_=>by cases hx;trivial
 | x :: xs, ys, v :: vs, hx, hv => by
  simp[ur] at hx
  split at hx
  ·rename_i y ys' h1 h2
   cases hx
   exact⟨Un h h1 hv.1,G0 h h2 hv.2⟩
  grind
 |[],_,_ :: _,_,hv=>hv.elim
 |_ :: _,_,[],_,hv=>hv.elim
theorem Ab {A B:Cx} {x:AV} {v:Value} (h:zD x=true) (hv:VC A x v):VC B x v:=by
 unfold zD at h
 split at h
 ·cases hv with
  |sc v h1=>exact DR.sc v h1
 ·cases hv with
  |sl els a n cap sz b o g hn hcap hsz ha hF hc hr=>exact DR.sl [] a n cap sz b o g hn hcap (fun _ h=>by cases h) ha (fun _ _ _ _ h=>by cases h) (fun _ _ _ _ h=>by cases h) (fun _ _ _ _ h=>by cases h)
 grind
theorem xq {A B:Cx} : ∀ {xs:List AV} {vs:List Value},xs.all zD=true→aq (VC A) xs vs→aq (VC B) xs vs
 |[],[],_,_=>trivial
 |x :: xs,v :: vs,h,hv=>by
  rw[List.all_cons,Bool.and_eq_true] at h
  exact⟨Ab h.1 hv.1,xq h.2 hv.2⟩
 |[],_ :: _,_,hv=>hv.elim
 |_ :: _,[],_,hv=>hv.elim
theorem tF {A B:Cx} {x:AV} {v:Value} (h:CD x=true) (hv:V1 A x v):V1 B x v:=by
 cases x with
 |agg cs=>obtain⟨vs,rfl,h3⟩:=hv;exact⟨vs,rfl,xq h h3⟩
 |d x=>exact .eL (Ab (A:=A) h hv)
 |_=>cases h
theorem xu {A B:Cx} : ∀ {xs:List AV} {vs:List Value},xs.all CD=true→aq (V1 A) xs vs→aq (V1 B) xs vs
 |[],[],_,_=>trivial
 |x :: xs,v :: vs,h,hv=>by
  rw[List.all_cons,Bool.and_eq_true] at h
  exact⟨tF h.1 hv.1,xu h.2 hv.2⟩
 |[],_ :: _,_,hv=>hv.elim
 |_ :: _,[],_,hv=>hv.elim
theorem JX {A B:Cx} {x:AV} {v:Value} (h:PN x=true) (hv:VR A x v):VR B x v:=by
 cases x with
 |gN cs=>obtain⟨vs,rfl,h3⟩:=hv;exact⟨vs,rfl,xu h h3⟩
 |agg cs=>exact .ux (tF (A:=A) h hv)
 |d x=>exact .ux (tF (A:=A) h hv)
 |_=>cases h
theorem C2 {call:Go.bq.Call} (cc:bX P call) (hs:eC X nt s a) {f:Nat} {args:List AV} {bu:Array Value} {r:cR}
  (hargs:aq (VR X) args bu.toList) (hr:jB call s f args=some r)
  (hrun:(∃ fn,P.funcs[f]?=some fn∧fn.body.isSome=true∧(fn.name == "runtime.NumGoroutine")=false)→(execOp a.eval o).run P X.w=.ok (.enter f bu) X.w):cD P X s a o dst aH r:=by
 unfold jB at hr
 split at hr
 ·cases hr
 ·rename_i aD hl
  split at hr
  ·cases hr
  ·rename_i r' cm ts n' hc
   split at hr
   case h_2=>cases hr
   rename_i v hi
   split at hr
   case h_2=>cases hr
   rename_i hfl
   cases hr
   intro K Q hK
   have hV:=G0 hs.mem hl hargs
   obtain⟨hfn,pJ⟩:=cc f aD [.lf] .lf 0 r' cm ts n' hc X.all bu (Um X hs.mem.pz) (fun _ _=>rfl) hV
   unfold Oper.wp
   rw[hrun hfn]
   refine Calls.mono pJ ?_
   rintro e w' ⟨Z,v',rfl,rfl,yZ,Uk,CX,_,_⟩
   have hblk:∀ b,b<X.w.heap.size→Z.w.heap[b]?=X.w.heap[b]?:=fun b hb=>yZ.below.block b hb
   let Y:Cx:={ w:=Z.w,F:=X.F,ρ:=X.ρ,old:=X.old }
   have hx:Ext X Y:=⟨rfl,yZ.below.mono hs.mem.low,fun _ _ h=>h,fun b o h=>yZ.keep b o (hs.mem.ni b o h),fun _ _ h=>h,fun _ _ h=>.inl h⟩
   have hm:aA Y s.mem s.aB:=hs.mem.move hx (fun k v L hk hv hc=>by
     obtain⟨M,hM,h2⟩:=hs.mem.cz hk
     rw[hv] at hM;injection hM with hM;subst hM
     exact hblk _ (h2 hc).1) (fun _ _ _ _ _ _ _ h=>h) fun b o h=>Nat.lt_of_lt_of_le (hs.mem.ni b o h) yZ.below.size
   have hvr:VR Y v v':=by
    rcases EH CX hi Uk with⟨_,hb⟩|⟨_,_,_,_,h,_⟩|h
    ·exact JX hfl (hb { Z with F:=fun _ _=>True } ⟨rfl,fun _ _ _=>trivial,fun h=>absurd h (by omega),fun _ _ _ _ _ _ _ _ _ _ _=>trivial⟩)
    ·cases h
    ·simp at h
   refine hK Y v' hx hvr ?_ (ew.EA rfl)
   exact hm
theorem wm {call:Go.bq.Call} (cc:bX P call) (hs:eC X nt s a) (hfr:X.ρ aH=none) (z8:aH<s.nv) (hdom:∀ v,s.nv≤v→X.ρ v=none) {shared:Bool} {f pk lv sl:Nat} {args:List AV} {bu:Array Value} {r:cR}
  (hargs:aq (VR X) args bu.toList) (hr:eZ call shared pk s lv sl aH f args=some r)
  (hrun:(∃ fn,P.funcs[f]?=some fn∧fn.body.isSome=true∧(fn.name == "runtime.NumGoroutine")=false)→(execOp a.eval o).run P X.w=.ok (.enter f bu) X.w):cD P X s a o dst aH r:=by
 unfold eZ at hr
 split at hr
 ·split at hr
  ·rename_i hba
   rw[JV hba] at hargs
   exact Qn cc hs hargs hr hrun
  split at hr
  ·cases hr
  ·rename_i aD ks hl
   split at hr
   ·cases hr
   ·rename_i r' cm ts n' hc
    split at hr
    ·cases hr
    ·rename_i v us hi
     split at hr
     ·cases hr
     ·rename_i u hu
      cases hr
      exact zZ cc hs hfr (GW hs.mem (ks:=ks) hl hargs fun p hp=>hp) hc hi hu hrun
 ·split at hr
  ·cases hr
  ·rename_i hnt
   split at hr
   ·cases hr
   ·rename_i r' cm ts n' hc
    split at hr
    ·cases hr
    ·rename_i v us hi
     split at hr
     ·cases hr
     ·rename_i u hu
      cases hr
      exact GZ cc hs hfr z8 hdom hargs hnt hc hi hu hrun
end
end Go.bq
