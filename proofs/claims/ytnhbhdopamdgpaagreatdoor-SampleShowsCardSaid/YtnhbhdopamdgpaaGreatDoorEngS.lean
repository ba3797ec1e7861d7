/- Calls that work on the caller's memory. -/
import Derived.Test.YtnhbhdopamdgpaaGreatDoorEngBox
namespace Go.Eng
open Go Go.RowKit
theorem opt_map {α β : Type} {x:Option α} {f : α→β} {y : β} (h:x.map f=some y):∃ z,x=some z∧f z=y:=by
 cases x with
 |none=>cases h
 |some z=>exact⟨z,rfl,by injection h⟩
theorem opt_bind {α β : Type} {x:Option α} {f : α→Option β} {y : β} (h:x.bind f=some y):∃ z,x=some z∧f z=some y:=by
 cases x with
 |none=>cases h
 |some z=>exact⟨z,rfl,h⟩
theorem pure_eq {v:AV} {r:Res} (h:Eff.pure v=some r):r=.eff { val:=v,upd:=[],tip:=[],rd:=[] }:=by
 unfold Eff.pure at h
 injection h with h
 exact h.symm
theorem V1.of_notTup {X:Cx} {x:AV} {v:Value} (h:notTup x=true) (hv:VR X x v):V1 X x v:=by
 cases x with
 |tup=>cases h
 |_=>exact hv
theorem All2.notTup {X:Cx} : ∀ {xs:List AV} {vs:List Value},xs.all Go.Eng.notTup=true→All2 (VR X) xs vs→All2 (V1 X) xs vs
 |[],[],_,_=>trivial
 |x :: xs,v :: vs,h,hv=>by
  simp only[List.all_cons,Bool.and_eq_true] at h
  exact⟨V1.of_notTup h.1 hv.1,All2.notTup h.2 hv.2⟩
 |[],_ :: _,_,hv=>hv.elim
 |_ :: _,[],_,hv=>hv.elim
theorem memGet_append_lf (m:List (Tr Ent)) (lv sl:Nat):memGet (m++[.lf]) lv sl=memGet m lv sl:=by
 unfold memGet
 rw[List.getElem?_append]
 split
 ·rfl
 ·rename_i h
  rw[List.getElem?_eq_none (l:=m) (by omega)]
  cases hk:lv-m.length with
  |zero=>rfl
  |succ k=>rfl
section
variable {P:Program} {X:Cx} {nt:Nat} {s:St} {a:Act} {o:Oper} {dst:Option Nat} {nvi:Nat}
theorem call_shared {call:Go.Eng.Call} (hcall:CallOK P call) (hs:Sim X nt s a) (hfr:X.ρ nvi=none) (hnv:nvi<s.nv) (hdom:∀ v,s.nv≤v→X.ρ v=none) {f pk lv sl:Nat} {args:List AV} {vargs:Array Value} {r val:AV} {cm:List (Tr Ent)} {ts:Tr Unit} {n':Nat} {us:List (List (List D))} {u:List (Nat×Nat×Option Ent)}
  (hargs:All2 (VR X) args vargs.toList) (hnt:args.all notTup=true) (hc:call f args (s.mem++[.lf]) s.tips s.nv=some (r,cm,ts,n')) (hi:impR cm s.mem.length pk lv sl nvi r=some (val,us)) (hu:rowUpd lv sl nvi us=some u)
  (hrun:(∃ fn,P.funcs[f]?=some fn∧fn.body.isSome=true∧(fn.name == "runtime.NumGoroutine")=false)→(execOp a.eval o).run P X.w=.ok (.enter f vargs) X.w) :
  After P X s a o dst nvi (.all val (applyUpd (cm.take s.mem.length) u) ts n'):=by
 intro K Q hK
 have hm0:MemOK X (s.mem++[.lf]) s.tips:=hs.mem.congr (fun lv sl=>memGet_append_lf _ _ _) fun _=>rfl
 obtain⟨hfn,hcalls⟩:=hcall f args (s.mem++[.lf]) s.tips s.nv r cm ts n' hc X vargs hm0 hdom (All2.notTup hnt hargs)
 unfold Oper.wp
 rw[hrun hfn,Oper.upon_enter]
 refine Calls.mono hcalls ?_
 rintro e w' ⟨Z,v,rfl,rfl,hxZ,hvZ,hmZ,hn,hdZ⟩
 show K (a.put o.dst v) Z.w
 have hρnvi:Z.ρ nvi=none:=by
  cases hz:Z.ρ nvi with
  |none=>rfl
  |some L=>
   rcases hdZ nvi L hz with h|h
   ·rw[hfr] at h;cases h
   ·omega
 have hless:MemOK Z (cm.take s.mem.length) ts:=hmZ.less (fun lv sl e he=>by
  rw[memGet_take] at he
  split at he
  ·exact he
  ·cases he) fun _ h=>h
 have key_low:∀ {k:Nat×Nat×Nat} {v:Nat},Holds (cm.take s.mem.length) ts k v→Holds cm ts k v∧∀ lv' sl',s.mem.length≤lv'→k≠keyE lv' sl':=by
  rintro k v (⟨lv',sl',e',rfl,he',hv'⟩|⟨rfl,he'⟩)
  ·rw [memGet_take] at he'
   split at he'
   ·rename_i hlt
    refine⟨.inl ⟨lv',sl',e',rfl,he',hv'⟩,fun lv'' sl'' hle hq=>?_⟩
    have:=(keyE_inj hq).1
    omega
   ·cases he'
  ·exact⟨.inr ⟨rfl,he'⟩,fun _ _ _ hq=>keyE_ne_keyT hq.symm⟩
 let G:Option Nat→Nat→Nat→Prop:=fun p b _=>some b≠p∧∃ lv' sl' e L,s.mem.length≤lv'∧memGet cm lv' sl'=some e∧e.fz=false∧Z.ρ e.ver=some L∧0<L.cap∧L.b=b
 have mk:∀ p,Ext Z (Z.more (G p))∧MemOK (Z.more (G p)) (cm.take s.mem.length) ts:=by
  intro p
  have hin:∀ b o,G p b o→¬Z.old b∧b<Z.w.heap.size:=by
   rintro b o ⟨_,lv',sl',e,L,_,hg,hz,hL,hc,rfl⟩
   obtain⟨M,hM,h2⟩:=hmZ.holds_ρ (.inl ⟨lv',sl',e,rfl,hg,rfl,hz⟩)
   rw[hL] at hM;injection hM with hM;subst hM
   exact⟨(h2 hc).2,(h2 hc).1⟩
  refine⟨Ext.more fun b o h=>(hin b o h).1,hless.more hin ?_⟩
  rintro k v M o hk hv hMc ⟨_,lv',sl',e,L,hle,hg,hz,hL,hc,hb⟩
  obtain⟨h1,h2⟩:=key_low hk
  exact hmZ.apart _ _ _ _ _ _ h1 (.inl ⟨lv',sl',e,rfl,hg,rfl,hz⟩) (h2 lv' sl' hle) hv hL hMc hc hb.symm
 rcases impR_b hmZ hi hvZ with⟨rfl,hb⟩|⟨els,len,sz,v',rfl,⟨hpk,⟨L,off,ad,cap,g3,g4,g5,g6,g7'⟩⟩,hb⟩|hlen
 ·simp only [rowUpd] at hu
  injection hu with hu;subst hu
  obtain⟨y5,y6⟩:=mk none
  refine hK (Z.more (G none)) v (hxZ.trans y5) (hb (Z.more (G none)) ⟨rfl,fun b o h=>.inl h,fun _ _ _ h=>h,fun _ lv' sl' e L hle hg hz hL hc o=>.inr ⟨by simp,lv',sl',e,L,hle,hg,hz,hL,hc,rfl⟩⟩) y6 ⟨hn,fun u L hL=>?_⟩
  rcases hdZ u L hL with h|h
  ·exact .inl h
  ·exact .inr (.inr h)
 ·simp only [rowUpd] at hu
  injection hu with hu;subst hu
  subst g3
  have g7:=fun hc=>(g7' hc).2
  obtain⟨y5,y6⟩:=mk (some L.b)
  obtain⟨W,w1,w2,w3,w4,w5,w6,w7⟩:=picked_row (Z:=Z) (Y:=Z.more (G (some L.b))) (lv:=lv) (sl:=sl) (ver:=nvi) y6 rfl (fun b o h=>.inl h) (fun _ h=>h) hρnvi g4 g5 g6 g7 fun hc=>⟨fun o h=>by
    rcases h with h|h
    ·exact (g7 hc).2.2.2.2.2.1 o h
    ·exact h.1 rfl,fun k u M hk hM hMc=>by
    obtain⟨h1,h2⟩:=key_low hk
    obtain⟨lv',sl',e,g0,g1,g2⟩:=(g7' hc).1
    exact hmZ.apart _ _ _ _ _ _ h1 (.inl ⟨lv',sl',e,rfl,g1.1,rfl,g1.2⟩) (h2 lv' sl' g0) hM g2 hMc (g7 hc).2.2.2.1⟩
  have hxW:Ext (Z.more (G (some L.b))) W:=⟨w3,by rw[w1];exact Stays.refl _ _,fun b o h=>by rw[w2];exact h,fun b o _=>by rw[w1],w4,fun b o h=>by rw[w2] at h;exact .inl h⟩
  rw[show Z.w=W.w from w1.symm]
  refine hK W v ((hxZ.trans y5).trans hxW) (hb W ⟨w1,fun b o h=>by rw[w2];exact .inl h,fun _ u M hM=>w4 u M hM,fun h=>absurd h hpk⟩ w7) w6 ⟨hn,fun u M hM=>?_⟩
  rcases w5 u M hM with h|h
  ·rcases hdZ u M h with h | h
   ·exact .inl h
   ·exact .inr (.inr h)
  ·exact .inr (.inl h)
 ·match us, hlen with
  |_ :: _ :: _,_=>simp[rowUpd] at hu
theorem doKeep_ok {call:Go.Eng.Call} (hcall:CallOK P call) (hs:Sim X nt s a) (hdom:∀ v,s.nv≤v→X.ρ v=none) {f:Nat} {args:List AV} {vargs:Array Value} {r:Res} (hargs:All2 (VR X) args vargs.toList) (hr:doKeep call s f args=some r)
  (hrun:(∃ fn,P.funcs[f]?=some fn∧fn.body.isSome=true∧(fn.name == "runtime.NumGoroutine")=false)→(execOp a.eval o).run P X.w=.ok (.enter f vargs) X.w):After P X s a o dst nvi r:=by
 unfold doKeep at hr
 split at hr
 ·cases hr
 ·rename_i hnt
  split at hr
  ·cases hr
  ·rename_i r' cm ts n' hc
   injection hr with hr;subst hr
   intro K Q hK
   have hm0:MemOK X (s.mem++[.lf]) s.tips:=hs.mem.congr (fun lv sl=>memGet_append_lf _ _ _) fun _=>rfl
   obtain⟨hfn,hcalls⟩:=hcall f args (s.mem++[.lf]) s.tips s.nv r' cm ts n' hc X vargs hm0 hdom (All2.notTup hnt hargs)
   unfold Oper.wp
   rw[hrun hfn,Oper.upon_enter]
   refine Calls.mono hcalls ?_
   rintro e w' ⟨Z,v,rfl,rfl,hxZ,hvZ,hmZ,hn,hdZ⟩
   show K (a.put o.dst v) Z.w
   exact hK Z v hxZ hvZ hmZ ⟨hn,fun u L hL=>(hdZ u L hL).imp id .inr⟩
theorem doGive_ok {call:Go.Eng.Call} (hcall:CallOK P call) (hs:Sim X nt s a) (hfr:X.ρ nvi=none) {f:Nat} {args:List AV} {vargs:Array Value} {r:Res} (hargs:All2 (VR X) args vargs.toList) (hr:doGive call s nvi f args=some r)
  (hrun:(∃ fn,P.funcs[f]?=some fn∧fn.body.isSome=true∧(fn.name == "runtime.NumGoroutine")=false)→(execOp a.eval o).run P X.w=.ok (.enter f vargs) X.w):After P X s a o dst nvi r:=by
 unfold doGive at hr
 split at hr
 ·cases hr
 ·rename_i as ks hl
  split at hr
  ·cases hr
  ·rename_i r' cm ts n' hc
   split at hr
   ·rename_i v hi
    injection hr with hr;subst hr
    have hV:=gives_ok hs.mem (ks:=ks) hl hargs fun p hp=>hp
    have:=call_iso (dst:=dst) hcall hs hfr (pk:=0) (lv:=0) (sl:=0) (rd:=args.flatMap keysIn) hV hc hi (u:=[]) rfl hrun
    rw[List.append_nil] at this
    exact this
   ·cases hr
def Cx.all (X:Cx):Cx:={ w:=X.w,F:=fun b _=>b<X.w.heap.size,ρ:=fun _=>none,old:=fun b=>b<X.w.heap.size }
theorem doLend_ok {call:Go.Eng.Call} (hcall:CallOK P call) (hs:Sim X nt s a) (hfr:X.ρ nvi=none) {f:Nat} {args:List AV} {vargs:Array Value} {r:Res} (hargs:All2 (VR X) args vargs.toList) (hr:doLend call s nvi f args=some r)
  (hrun:(∃ fn,P.funcs[f]?=some fn∧fn.body.isSome=true∧(fn.name == "runtime.NumGoroutine")=false)→(execOp a.eval o).run P X.w=.ok (.enter f vargs) X.w):After P X s a o dst nvi r:=by
 unfold doLend at hr
 split at hr
 ·cases hr
 ·rename_i as hl
  split at hr
  ·cases hr
  ·rename_i r' cm ts n' hc
   split at hr
   ·rename_i v hi
    injection hr with hr;subst hr
    have hV:=lendSs_ok hs.mem [] hl hargs
    have:=call_iso (dst:=dst) hcall hs hfr (pk:=0) (lv:=0) (sl:=0) (rd:=args.flatMap keysIn) hV hc hi (ks:=[]) (u:=[]) rfl hrun
    exact this
   ·cases hr
theorem all_mem (X:Cx) (hl:Low X):MemOK X.all [.lf] .lf:=by
 refine⟨fun lv sl e he=>?_,fun v hv=>by simp at hv,fun k k' v v' L L' _ _ _ hv _ _ _=>?_,fun _ _ h=>h,fun _ h=>h,fun b hb=>hl.lt b (hl.gb b hb),hl.gk⟩
 ·exfalso
  unfold memGet at he
  cases lv with
  |zero=>simp at he
  |succ lv=>simp at he
 ·cases hv
theorem cellF_ok {m:List (Tr Ent)} {t:Tr Unit} (h:MemOK X m t) {x:AV} {y:D} {v:Value} (hx:cellF m x=some y) (hv:VC X x v):DR X.w X.all.F y v:=by
 have hsub:∀ b o,X.F b o→X.all.F b o:=fun b o hb=>h.inF b o hb
 have lent:∀ {els a cap sz b o} {R:Nat→Nat→Prop},v=.slice a els.length cap→els.length≤cap→(0<els.length→a=some ⟨b,o,none⟩)→Lies X.w X.F R els b o sz→DR X.w X.all.F (.sl els) v:=by
  rintro els a cap sz b o R rfl h2 h3 h4
  exact DR.of_lies (h4.mono hsub fun q hq _=>cell_lt hq) rfl h2 h3
 cases x with
 |d x=>simp only[cellF] at hx;injection hx with hx;subst hx;exact DR.mono hsub hv
 |own els ow=>
  simp only[cellF] at hx;injection hx with hx;subst hx
  cases ow with
  |full=>obtain⟨a,b,o,sz,h1,h2,h3⟩:=hv;exact lent h1 (Nat.le_refl _) h2 h3
  |tip ver tz=>obtain⟨a,b,o,sz,cap,h1,h2,h3,h4,_⟩:=hv;exact lent h1 h2 (fun h=>h3 (by omega)) h4
  |bor=>obtain⟨a,b,o,sz,cap,h1,h2,h3,h4⟩:=hv;exact lent h1 h2 h3 h4
 | ref lv sl ver off len sz =>
  simp only[cellF] at hx
  cases he:elsOf m (.ref lv sl ver off len sz) with
  |none=>rw[he] at hx;cases hx
  |some els=>
   rw[he] at hx
   simp only[Option.map_some] at hx
   injection hx with hx;subst hx
   obtain⟨a,cap,sz',b,o,h1,h2,h3,h4⟩:=elsOf_ok h he (.of_VC hv)
   exact lent h1 h2 h3 h4
 |_=>cases hx
theorem cellsF_ok {m:List (Tr Ent)} {t:Tr Unit} (h:MemOK X m t):∀ {xs:List AV} {ys:List D} {vs:List Value},cellsF m xs=some ys→All2 (VC X) xs vs→All2 (DR X.w X.all.F) ys vs
 |[],ys,[],hx,_=>by simp only[cellsF] at hx;injection hx with hx;subst hx;trivial
 | x :: xs, ys, v :: vs, hx, hv => by
  simp only[cellsF] at hx
  split at hx
  ·rename_i y ys' h1 h2
   injection hx with hx;subst hx
   exact⟨cellF_ok h h1 hv.1,cellsF_ok h h2 hv.2⟩
  ·cases hx
 |[],_,_ :: _,_,hv=>hv.elim
 |_ :: _,_,[],_,hv=>hv.elim
theorem chunk_get {α : Type} {sz:Nat} : ∀ {n:Nat} {l:List α},l.length=n*sz→(chunk sz n l).length=n∧(∀ e∈chunk sz n l,e.length=sz)∧∀ (i j:Nat) e x,(chunk sz n l)[i]?=some e→e[j]?=some x→j<sz∧i<n∧l[i*sz+j]?=some x
 |0,l,h=>⟨rfl,fun e he=>(by cases he),fun i j e x h1 _=>by simp[chunk] at h1⟩
 | n + 1, l, h => by
  have hl:(l.drop sz).length=n*sz:=by rw[List.length_drop,h,Nat.succ_mul];omega
  obtain⟨h1,h2,h3⟩:=chunk_get (sz:=sz) hl
  have ht:(l.take sz).length=sz:=by rw[List.length_take,h,Nat.succ_mul];omega
  refine⟨by simp[chunk,h1],fun e he=>?_,fun i j e x he hx=>?_⟩
  ·simp only [chunk, List.mem_cons] at he
   rcases he with rfl|he
   ·exact ht
   ·exact h2 e he
  ·cases i with
   | zero =>
    simp only[chunk,List.getElem?_cons_zero,Option.some.injEq] at he
    subst he
    have hj:j<sz:=by
     have:=(List.getElem?_eq_some_iff.1 hx).1
     omega
    rw[List.getElem?_take,if_pos hj] at hx
    exact⟨hj,by omega,by rw[Nat.zero_mul,Nat.zero_add];exact hx⟩
   |succ i=>
    simp only[chunk,List.getElem?_cons_succ] at he
    obtain⟨g1,g2,g3⟩:=h3 i j e x he hx
    refine⟨g1,by omega,?_⟩
    rw[List.getElem?_drop] at g3
    rw[Nat.succ_mul,show i*sz+sz+j=sz+(i*sz+j) by omega]
    exact g3
theorem argF_ok {m:List (Tr Ent)} {t:Tr Unit} (h:MemOK X m t) {x y:AV} {v:Value} (hx:argF m x=some y) (hv:VR X x v):V1 X.all y v:=by
 have one:∀ {x:AV},(cellF m x).map AV.d=some y→VC X x v→V1 X.all y v:=by
  intro x hx hv
  obtain⟨d,hd,rfl⟩:=opt_map hx
  exact .of_VC (cellF_ok h hd hv)
 cases x with
 |agg cs=>
  simp only[argF] at hx
  obtain⟨ds,hd,rfl⟩:=opt_map hx
  obtain⟨vs,rfl,h3⟩:=hv
  exact⟨vs,rfl,(cellsF_ok h hd h3).mapD (X:=X.all)⟩
 |clo f c=>
  cases c with
  |nil=>simp only[argF] at hx;injection hx with hx;subst hx;exact .of_VC (clo_nil hv)
  |cons=>simp[argF,cellF] at hx
 | bref lv sl ver off n sz =>
  simp only[argF] at hx
  split at hx
  ·rename_i cs hb
   split at hx
   ·rename_i hoff
    obtain⟨ds,hd,rfl⟩:=opt_map hx
    obtain⟨L,hL,rfl,hn⟩:=hv
    have hg:memGet m lv sl=some (.box ver cs):=by
     unfold boxAt at hb
     split at hb
     ·rename_i v cs' hm
      split at hb
      ·rename_i hv
       injection hb with hb;subst hb
       rw[hm,beq_true.1 hv]
      ·cases hb
     ·cases hb
    obtain⟨L',hL',hE⟩:=h.ents lv sl _ hg
    have hL':X.ρ ver=some L':=hL'
    rw[hL] at hL';injection hL' with hL';subst hL'
    obtain⟨_,hblk,hno,hcell⟩:=hE
    have hlen:((cs.drop off).take (n*sz)).length=n*sz:=by simp;omega
    have hdl:ds.length=n*sz:=by
     have:∀ {xs:List AV} {ys:List D},cellsF m xs=some ys→ys.length=xs.length:=by
      intro xs
      induction xs with
      |nil=>intro ys h;simp only[cellsF] at h;injection h with h;subst h;rfl
      |cons x xs ih=>
       intro ys h
       simp only[cellsF] at h
       split at h
       ·rename_i h2;injection h with h;subst h;simp[ih h2]
       ·cases h
     rw[this hd,hlen]
    obtain⟨c1,c2,c3⟩:=chunk_get hdl
    refine .of_VC (DR.of_lies (b:=L.b) (o:=L.o+off) (sz:=sz) ⟨c2,fun i e j x h1 h2=>?_⟩ c1 (Nat.le_refl _) fun _=>rfl)
    obtain⟨g1,g2,g3⟩:=c3 i j e x h1 h2
    refine⟨hblk.lt,?_⟩
    have cell:∀ {xs:List AV} {ys:List D},cellsF m xs=some ys→∀ (k:Nat) (y:D),ys[k]?=some y→∃ a,xs[k]?=some a∧cellF m a=some y:=by
     intro xs
     induction xs with
     |nil=>intro ys h k y hk;simp only[cellsF] at h;injection h with h;subst h;simp at hk
     | cons a xs ih =>
      intro ys h k y hk
      simp only[cellsF] at h
      split at h
      ·rename_i z zs h1 h2
       injection h with h;subst h
       cases k with
       |zero=>simp only[List.getElem?_cons_zero,Option.some.injEq] at hk;subst hk;exact⟨a,rfl,h1⟩
       |succ k=>simpa using ih h2 k y (by simpa using hk)
      ·cases h
    obtain⟨a,ha,hca⟩:=cell hd _ _ g3
    rw[List.getElem?_take] at ha
    split at ha
    ·rw [List.getElem?_drop] at ha
     obtain⟨u,hu,hvc⟩:=hcell _ _ ha
     refine⟨u,?_,cellF_ok h hca hvc⟩
     rw[show L.o+off+i*sz+j=L.o+(off+(i*sz+j)) by omega]
     exact hu
    ·cases ha
   ·cases hx
  ·cases hx
 |tup cs=>simp[argF,cellF] at hx
 |_=>simp only[argF] at hx;exact one hx hv
theorem argsF_ok {m:List (Tr Ent)} {t:Tr Unit} (h:MemOK X m t):∀ {xs ys:List AV} {vs:List Value},argsF m xs=some ys→All2 (VR X) xs vs→All2 (V1 X.all) ys vs
 |[],ys,[],hx,_=>by simp only[argsF] at hx;injection hx with hx;subst hx;trivial
 | x :: xs, ys, v :: vs, hx, hv => by
  simp only[argsF] at hx
  split at hx
  ·rename_i y ys' h1 h2
   injection hx with hx;subst hx
   exact⟨argF_ok h h1 hv.1,argsF_ok h h2 hv.2⟩
  ·cases hx
 |[],_,_ :: _,_,hv=>hv.elim
 |_ :: _,_,[],_,hv=>hv.elim
theorem flatC_move {A B:Cx} {x:AV} {v:Value} (h:flatC x=true) (hv:VC A x v):VC B x v:=by
 unfold flatC at h
 split at h
 ·cases hv with
  |sc v h1=>exact DR.sc v h1
 ·cases hv with
  |sl els a n cap sz b o g hn hcap hsz ha hF hc hr=>exact DR.sl [] a n cap sz b o g hn hcap (fun _ h=>by cases h) ha (fun _ _ _ _ h=>by cases h) (fun _ _ _ _ h=>by cases h) (fun _ _ _ _ h=>by cases h)
 ·cases h
theorem flatCs_move {A B:Cx} : ∀ {xs:List AV} {vs:List Value},xs.all flatC=true→All2 (VC A) xs vs→All2 (VC B) xs vs
 |[],[],_,_=>trivial
 |x :: xs,v :: vs,h,hv=>by
  rw[List.all_cons,Bool.and_eq_true] at h
  exact⟨flatC_move h.1 hv.1,flatCs_move h.2 hv.2⟩
 |[],_ :: _,_,hv=>hv.elim
 |_ :: _,[],_,hv=>hv.elim
theorem flat1_move {A B:Cx} {x:AV} {v:Value} (h:flat1 x=true) (hv:V1 A x v):V1 B x v:=by
 cases x with
 |agg cs=>obtain⟨vs,rfl,h3⟩:=hv;exact⟨vs,rfl,flatCs_move h h3⟩
 |d x=>exact .of_VC (flatC_move (A:=A) h hv)
 |_=>cases h
theorem flat1s_move {A B:Cx} : ∀ {xs:List AV} {vs:List Value},xs.all flat1=true→All2 (V1 A) xs vs→All2 (V1 B) xs vs
 |[],[],_,_=>trivial
 |x :: xs,v :: vs,h,hv=>by
  rw[List.all_cons,Bool.and_eq_true] at h
  exact⟨flat1_move h.1 hv.1,flat1s_move h.2 hv.2⟩
 |[],_ :: _,_,hv=>hv.elim
 |_ :: _,[],_,hv=>hv.elim
theorem flatR_move {A B:Cx} {x:AV} {v:Value} (h:flatR x=true) (hv:VR A x v):VR B x v:=by
 cases x with
 |tup cs=>obtain⟨vs,rfl,h3⟩:=hv;exact⟨vs,rfl,flat1s_move h h3⟩
 |agg cs=>exact .of_V1 (flat1_move (A:=A) h hv)
 |d x=>exact .of_V1 (flat1_move (A:=A) h hv)
 |_=>cases h
theorem doFlat_ok {call:Go.Eng.Call} (hcall:CallOK P call) (hs:Sim X nt s a) {f:Nat} {args:List AV} {vargs:Array Value} {r:Res}
  (hargs:All2 (VR X) args vargs.toList) (hr:doFlat call s f args=some r)
  (hrun:(∃ fn,P.funcs[f]?=some fn∧fn.body.isSome=true∧(fn.name == "runtime.NumGoroutine")=false)→(execOp a.eval o).run P X.w=.ok (.enter f vargs) X.w):After P X s a o dst nvi r:=by
 unfold doFlat at hr
 split at hr
 ·cases hr
 ·rename_i as hl
  split at hr
  ·cases hr
  ·rename_i r' cm ts n' hc
   split at hr
   case h_2=>cases hr
   rename_i v hi
   split at hr
   case h_2=>cases hr
   rename_i hfl
   injection hr with hr;subst hr
   intro K Q hK
   have hV:=argsF_ok hs.mem hl hargs
   obtain⟨hfn,hcalls⟩:=hcall f as [.lf] .lf 0 r' cm ts n' hc X.all vargs (all_mem X hs.mem.lows) (fun _ _=>rfl) hV
   unfold Oper.wp
   rw[hrun hfn,Oper.upon_enter]
   refine Calls.mono hcalls ?_
   rintro e w' ⟨Z,v',rfl,rfl,hxZ,hvZ,hmZ,_,_⟩
   show K (a.put o.dst v') Z.w
   have hblk:∀ b,b<X.w.heap.size→Z.w.heap[b]?=X.w.heap[b]?:=fun b hb=>hxZ.below.block b hb
   let Y:Cx:={ w:=Z.w,F:=X.F,ρ:=X.ρ,old:=X.old }
   have hx:Ext X Y:=⟨rfl,hxZ.below.mono hs.mem.low,fun _ _ h=>h,fun b o h=>hxZ.keep b o (hs.mem.inF b o h),fun _ _ h=>h,fun _ _ h=>.inl h⟩
   have hm:MemOK Y s.mem s.tips:=hs.mem.move hx (fun k v L hk hv hc=>by
     obtain⟨M,hM,h2⟩:=hs.mem.holds_ρ hk
     rw[hv] at hM;injection hM with hM;subst hM
     exact hblk _ (h2 hc).1) (fun _ _ _ _ _ _ _ h=>h) fun b o h=>Nat.lt_of_lt_of_le (hs.mem.inF b o h) hxZ.below.size
   have hvr:VR Y v v':=by
    rcases impR_b hmZ hi hvZ with⟨_,hb⟩|⟨_,_,_,_,h,_⟩|h
    ·exact flatR_move hfl (hb { Z with F:=fun _ _=>True } ⟨rfl,fun _ _ _=>trivial,fun h=>absurd h (by omega),fun _ _ _ _ _ _ _ _ _ _ _=>trivial⟩)
    ·cases h
    ·simp at h
   refine hK Y v' hx hvr ?_ (DomOK.of_ρ rfl)
   exact hm
theorem doCall_ok {call:Go.Eng.Call} (hcall:CallOK P call) (hs:Sim X nt s a) (hfr:X.ρ nvi=none) (hnv:nvi<s.nv) (hdom:∀ v,s.nv≤v→X.ρ v=none) {shared:Bool} {f pk lv sl:Nat} {args:List AV} {vargs:Array Value} {r:Res}
  (hargs:All2 (VR X) args vargs.toList) (hr:doCall call shared pk s lv sl nvi f args=some r)
  (hrun:(∃ fn,P.funcs[f]?=some fn∧fn.body.isSome=true∧(fn.name == "runtime.NumGoroutine")=false)→(execOp a.eval o).run P X.w=.ok (.enter f vargs) X.w):After P X s a o dst nvi r:=by
 unfold doCall at hr
 split at hr
 ·split at hr
  ·rename_i hba
   rw[boxArgs_eq hba] at hargs
   exact call_box hcall hs hargs hr hrun
  split at hr
  ·cases hr
  ·rename_i as ks hl
   split at hr
   ·cases hr
   ·rename_i r' cm ts n' hc
    split at hr
    ·cases hr
    ·rename_i v us hi
     split at hr
     ·cases hr
     ·rename_i u hu
      injection hr with hr;subst hr
      exact call_iso hcall hs hfr (lends_ok hs.mem (ks:=ks) hl hargs fun p hp=>hp) hc hi hu hrun
 ·split at hr
  ·cases hr
  ·rename_i hnt
   split at hr
   ·cases hr
   ·rename_i r' cm ts n' hc
    split at hr
    ·cases hr
    ·rename_i v us hi
     split at hr
     ·cases hr
     ·rename_i u hu
      injection hr with hr;subst hr
      exact call_shared hcall hs hfr hnv hdom hargs hnt hc hi hu hrun
end
end Go.Eng
