/- A part of the proof: EngS, EngSH. -/
import Derived.Test.YtleacocdepjflaaGreatEngBox
namespace Go.Eng
open Go Go.RowKit
theorem opt_map {α β : Type} {x:Option α} {f : α→β} {y : β} (h:x.map f=some y):∃ z,x=some z∧f z=y:=by
 cases x with
 |none=>cases h
 |some z=>exact⟨z,rfl,by injection h⟩
theorem opt_bind {α β : Type} {x:Option α} {f : α→Option β} {y : β} (h:x.bind f=some y):∃ z,x=some z∧f z=some y:=by
 cases x with
 |none=>cases h
 |some z=>exact⟨z,rfl,h⟩
theorem pure_eq {v:AV} {r:Res} (h:Eff.pure v=some r):r=.eff { val:=v,upd:=[],tip:=[],rd:=[] }:=by
 unfold Eff.pure at h
 injection h with h
 exact h.symm
theorem V1.of_notTup {X:Cx} {x:AV} {v:Value} (h:notTup x=true) (hv:VR X x v):V1 X x v:=by
 cases x with
 |tup=>cases h
 |_=>exact hv
theorem All2.notTup {X:Cx} : ∀ {xs:List AV} {vs:List Value},xs.all Go.Eng.notTup=true→All2 (VR X) xs vs→All2 (V1 X) xs vs
 |[],[],_,_=>trivial
 |x :: xs,v :: vs,h,hv=>by
  simp only[List.all_cons,Bool.and_eq_true] at h
  exact⟨V1.of_notTup h.1 hv.1,All2.notTup h.2 hv.2⟩
 |[],_ :: _,_,hv=>hv.elim
 |_ :: _,[],_,hv=>hv.elim
theorem memGet_append_lf (m:List (Tr Ent)) (lv sl:Nat):memGet (m++[.lf]) lv sl=memGet m lv sl:=by
 unfold memGet
 rw[List.getElem?_append]
 split
 ·rfl
 ·rename_i h
  rw[List.getElem?_eq_none (l:=m) (by omega)]
  cases hk:lv-m.length with
  |zero=>rfl
  |succ k=>rfl
section
variable {P:Program} {X:Cx} {nt:NT} {s:St} {a:Act} {o:Oper} {dst:Option Nat} {nvi:Nat}
theorem call_shared0 {call:Go.Eng.Call} (hcall:CallOK P call) (hsm:MemOK X s.mem s.tips) (hfr:X.ρ nvi=none) (hnv:nvi<s.nv) (hdom:∀ v,s.nv≤v→X.ρ v=none) {f pk lv sl:Nat} {args:List AV} {vargs:Array Value} {r val:AV} {cm:List (Tr Ent)} {ts:Tr Unit} {n':Nat} {us:List (List (List D))} {u:List (Nat×Nat×Option Ent)}
  (hargs:All2 (VR X) args vargs.toList) (hnt:args.all notTup=true) (hc:call f args (s.mem++[.lf]) s.tips s.nv=some (r,cm,ts,n')) (hi:impR cm s.mem.length pk lv sl nvi r=some (val,us)) (hu:rowUpd lv sl nvi us=some u)
  (hrun:(∃ fn,P.funcs[f]?=some fn∧fn.body.isSome=true∧(fn.name == "runtime.NumGoroutine")=false)→(execOp a.eval o).run P X.w=.ok (.enter f vargs) X.w) :
  After P X s a o dst nvi (.all val (applyUpd (cm.take s.mem.length) u) ts n' [] []):=by
 intro K Q hK
 have hm0:MemOK X (s.mem++[.lf]) s.tips:=hsm.congr (fun lv sl=>memGet_append_lf _ _ _) fun _=>rfl
 obtain⟨hfn,hcalls⟩:=hcall f args (s.mem++[.lf]) s.tips s.nv r cm ts n' hc X vargs hm0 hdom (All2.notTup hnt hargs)
 unfold Oper.wp
 rw[hrun hfn,Oper.upon_enter]
 refine Calls.mono hcalls ?_
 rintro e w' ⟨Z,v,rfl,rfl,hxZ,hvZ,hmZ,hn,hdZ⟩
 show K (a.put o.dst v) Z.w
 have hρnvi:Z.ρ nvi=none:=by
  cases hz:Z.ρ nvi with
  |none=>rfl
  |some L=>
   rcases hdZ nvi L hz with h|h
   ·rw[hfr] at h;cases h
   ·omega
 have hless:MemOK Z (cm.take s.mem.length) ts:=hmZ.less (fun lv sl e he=>by
  rw[memGet_take] at he
  split at he
  ·exact he
  ·cases he) fun _ h=>h
 have key_low:∀ {k:Nat×Nat×Nat} {v:Nat},Holds (cm.take s.mem.length) ts k v→Holds cm ts k v∧∀ lv' sl',s.mem.length≤lv'→k≠keyE lv' sl':=by
  rintro k v (⟨lv',sl',e',rfl,he',hv'⟩|⟨rfl,he'⟩)
  ·rw [memGet_take] at he'
   split at he'
   ·rename_i hlt
    refine⟨.inl ⟨lv',sl',e',rfl,he',hv'⟩,fun lv'' sl'' hle hq=>?_⟩
    have:=(keyE_inj hq).1
    omega
   ·cases he'
  ·exact⟨.inr ⟨rfl,he'⟩,fun _ _ _ hq=>keyE_ne_keyT hq.symm⟩
 let G:Option Nat→Nat→Nat→Prop:=fun p b _=>some b≠p∧∃ lv' sl' e L,s.mem.length≤lv'∧memGet cm lv' sl'=some e∧e.fz=false∧Z.ρ e.ver=some L∧0<L.cap∧L.b=b
 have mk:∀ p,Ext Z (Z.more (G p))∧MemOK (Z.more (G p)) (cm.take s.mem.length) ts:=by
  intro p
  have hin:∀ b o,G p b o→¬Z.old b∧b<Z.w.heap.size:=by
   rintro b o ⟨_,lv',sl',e,L,_,hg,hz,hL,hc,rfl⟩
   obtain⟨M,hM,h2⟩:=hmZ.holds_ρ (.inl ⟨lv',sl',e,rfl,hg,rfl,hz⟩)
   rw[hL] at hM;injection hM with hM;subst hM
   exact⟨(h2 hc).2,(h2 hc).1⟩
  refine⟨Ext.more fun b o h=>(hin b o h).1,hless.more hin ?_⟩
  rintro k v M o hk hv hMc ⟨_,lv',sl',e,L,hle,hg,hz,hL,hc,hb⟩
  obtain⟨h1,h2⟩:=key_low hk
  exact hmZ.apart _ _ _ _ _ _ h1 (.inl ⟨lv',sl',e,rfl,hg,rfl,hz⟩) (h2 lv' sl' hle) hv hL hMc hc hb.symm
 rcases impR_b hmZ hi hvZ with⟨rfl,hb⟩|⟨els,len,sz,v',rfl,⟨hpk,⟨L,off,ad,cap,g3,g4,g5,g6,g7'⟩⟩,hb⟩|hlen
 ·simp only [rowUpd] at hu
  injection hu with hu;subst hu
  obtain⟨y5,y6⟩:=mk none
  refine hK (Z.more (G none)) v (hxZ.trans y5) (hb (Z.more (G none)) ⟨rfl,fun b o h=>.inl h,fun _ _ _ h=>h,fun _ lv' sl' e L hle hg hz hL hc o=>.inr ⟨by simp,lv',sl',e,L,hle,hg,hz,hL,hc,rfl⟩⟩) y6 ⟨hn,fun u L hL=>?_⟩
  rcases hdZ u L hL with h|h
  ·exact .inl h
  ·exact .inr (.inr h)
 ·simp only [rowUpd] at hu
  injection hu with hu;subst hu
  subst g3
  have g7:=fun hc=>(g7' hc).2
  obtain⟨y5,y6⟩:=mk (some L.b)
  obtain⟨W,w1,w2,w3,w4,w5,w6,w7⟩:=picked_row (Z:=Z) (Y:=Z.more (G (some L.b))) (lv:=lv) (sl:=sl) (ver:=nvi) y6 rfl (fun b o h=>.inl h) (fun _ h=>h) hρnvi g4 g5 g6 g7 fun hc=>⟨fun o h=>by
    rcases h with h|h
    ·exact (g7 hc).2.2.2.2.2.1 o h
    ·exact h.1 rfl,fun k u M hk hM hMc=>by
    obtain⟨h1,h2⟩:=key_low hk
    obtain⟨lv',sl',e,g0,g1,g2⟩:=(g7' hc).1
    exact hmZ.apart _ _ _ _ _ _ h1 (.inl ⟨lv',sl',e,rfl,g1.1,rfl,g1.2⟩) (h2 lv' sl' g0) hM g2 hMc (g7 hc).2.2.2.1⟩
  have hxW:Ext (Z.more (G (some L.b))) W:=⟨w3,by rw[w1];exact Stays.refl _ _,fun b o h=>by rw[w2];exact h,fun b o _=>by rw[w1],w4,fun b o h=>by rw[w2] at h;exact .inl h⟩
  rw[show Z.w=W.w from w1.symm]
  refine hK W v ((hxZ.trans y5).trans hxW) (hb W ⟨w1,fun b o h=>by rw[w2];exact .inl h,fun _ u M hM=>w4 u M hM,fun h=>absurd h hpk⟩ w7) w6 ⟨hn,fun u M hM=>?_⟩
  rcases w5 u M hM with h|h
  ·rcases hdZ u M h with h | h
   ·exact .inl h
   ·exact .inr (.inr h)
  ·exact .inr (.inl h)
 ·match us, hlen with
  |_ :: _ :: _,_=>simp[rowUpd] at hu
theorem call_shared {call:Go.Eng.Call} (hcall:CallOK P call) (hs:Sim X nt s a) (hfr:X.ρ nvi=none) (hnv:nvi<s.nv) (hdom:∀ v,s.nv≤v→X.ρ v=none) {f pk lv sl:Nat} {args:List AV} {vargs:Array Value} {r val:AV} {cm:List (Tr Ent)} {ts:Tr Unit} {n':Nat} {us:List (List (List D))} {u:List (Nat×Nat×Option Ent)}
  (hargs:All2 (VR X) args vargs.toList) (hnt:args.all notTup=true) (hc:call f args (s.mem++[.lf]) s.tips s.nv=some (r,cm,ts,n')) (hi:impR cm s.mem.length pk lv sl nvi r=some (val,us)) (hu:rowUpd lv sl nvi us=some u)
  (hrun:(∃ fn,P.funcs[f]?=some fn∧fn.body.isSome=true∧(fn.name == "runtime.NumGoroutine")=false)→(execOp a.eval o).run P X.w=.ok (.enter f vargs) X.w) :
  After P X s a o dst nvi (.all val (applyUpd (cm.take s.mem.length) u) ts n' [] []):=
 call_shared0 hcall hs.mem hfr hnv hdom hargs hnt hc hi hu hrun
theorem doKeep_ok {call:Go.Eng.Call} (hcall:CallOK P call) (hs:Sim X nt s a) (hdom:∀ v,s.nv≤v→X.ρ v=none) {f:Nat} {args:List AV} {vargs:Array Value} {r:Res} (hargs:All2 (VR X) args vargs.toList) (hr:doKeep call s f args=some r)
  (hrun:(∃ fn,P.funcs[f]?=some fn∧fn.body.isSome=true∧(fn.name == "runtime.NumGoroutine")=false)→(execOp a.eval o).run P X.w=.ok (.enter f vargs) X.w):After P X s a o dst nvi r:=by
 unfold doKeep at hr
 split at hr
 ·cases hr
 ·rename_i hnt
  split at hr
  ·cases hr
  ·rename_i r' cm ts n' hc
   injection hr with hr;subst hr
   intro K Q hK
   have hm0:MemOK X (s.mem++[.lf]) s.tips:=hs.mem.congr (fun lv sl=>memGet_append_lf _ _ _) fun _=>rfl
   obtain⟨hfn,hcalls⟩:=hcall f args (s.mem++[.lf]) s.tips s.nv r' cm ts n' hc X vargs hm0 hdom (All2.notTup hnt hargs)
   unfold Oper.wp
   rw[hrun hfn,Oper.upon_enter]
   refine Calls.mono hcalls ?_
   rintro e w' ⟨Z,v,rfl,rfl,hxZ,hvZ,hmZ,hn,hdZ⟩
   show K (a.put o.dst v) Z.w
   exact hK Z v hxZ hvZ hmZ ⟨hn,fun u L hL=>(hdZ u L hL).imp id .inr⟩
theorem doGive_ok {call:Go.Eng.Call} (hcall:CallOK P call) (hs:Sim X nt s a) (hfr:X.ρ nvi=none) {f:Nat} {args:List AV} {vargs:Array Value} {r:Res} (hargs:All2 (VR X) args vargs.toList) (hr:doGive call s nvi f args=some r)
  (hrun:(∃ fn,P.funcs[f]?=some fn∧fn.body.isSome=true∧(fn.name == "runtime.NumGoroutine")=false)→(execOp a.eval o).run P X.w=.ok (.enter f vargs) X.w):After P X s a o dst nvi r:=by
 unfold doGive at hr
 split at hr
 ·cases hr
 ·rename_i as ks hl
  split at hr
  ·cases hr
  ·rename_i r' cm ts n' hc
   split at hr
   ·rename_i v hi
    injection hr with hr;subst hr
    have hV:=gives_ok hs.mem (ks:=ks) hl hargs fun p hp=>hp
    have:=call_iso (dst:=dst) hcall hs hfr (pk:=0) (lv:=0) (sl:=0) (rd:=args.flatMap keysIn) hV hc hi (u:=[]) rfl hrun
    rw[List.append_nil] at this
    exact this
   ·cases hr
def Cx.all (X:Cx):Cx:={ w:=X.w,F:=fun b _=>b<X.w.heap.size,ρ:=fun _=>none,old:=fun b=>b<X.w.heap.size }
theorem doLend_ok {call:Go.Eng.Call} (hcall:CallOK P call) (hs:Sim X nt s a) (hfr:X.ρ nvi=none) {f:Nat} {args:List AV} {vargs:Array Value} {r:Res} (hargs:All2 (VR X) args vargs.toList) (hr:doLend call s nvi f args=some r)
  (hrun:(∃ fn,P.funcs[f]?=some fn∧fn.body.isSome=true∧(fn.name == "runtime.NumGoroutine")=false)→(execOp a.eval o).run P X.w=.ok (.enter f vargs) X.w):After P X s a o dst nvi r:=by
 unfold doLend at hr
 split at hr
 ·cases hr
 ·rename_i as hl
  split at hr
  ·cases hr
  ·rename_i r' cm ts n' hc
   split at hr
   ·rename_i v hi
    injection hr with hr;subst hr
    have hV:=lendSs_ok hs.mem [] hl hargs
    have:=call_iso (dst:=dst) hcall hs hfr (pk:=0) (lv:=0) (sl:=0) (rd:=args.flatMap keysIn) hV hc hi (ks:=[]) (u:=[]) rfl hrun
    exact this
   ·cases hr
theorem all_mem (X:Cx) (hl:Low X):MemOK X.all [.lf] .lf:=by
 refine⟨fun lv sl e he=>?_,fun v hv=>by simp at hv,fun k k' v v' L L' _ _ _ hv _ _ _=>?_,fun _ _ h=>h,fun _ h=>h,fun b hb=>hl.lt b (hl.gb b hb),hl.gk⟩
 ·exfalso
  unfold memGet at he
  cases lv with
  |zero=>simp at he
  |succ lv=>simp at he
 ·cases hv
theorem cellF_ok {m:List (Tr Ent)} {t:Tr Unit} (h:MemOK X m t) {x:AV} {y:D} {v:Value} (hx:cellF m x=some y) (hv:VC X x v):DR X.w X.all.F y v:=by
 have hsub:∀ b o,X.F b o→X.all.F b o:=fun b o hb=>h.inF b o hb
 have lent:∀ {els a cap sz b o} {R:Nat→Nat→Prop},v=.slice a els.length cap→els.length≤cap→(0<els.length→a=some ⟨b,o,none⟩)→Lies X.w X.F R els b o sz→DR X.w X.all.F (.sl els) v:=by
  rintro els a cap sz b o R rfl h2 h3 h4
  exact DR.of_lies (h4.mono hsub fun q hq _=>cell_lt hq) rfl h2 h3
 cases x with
 |d x=>simp only[cellF] at hx;injection hx with hx;subst hx;exact DR.mono hsub hv
 |own els ow=>
  simp only[cellF] at hx;injection hx with hx;subst hx
  cases ow with
  |full=>obtain⟨a,b,o,sz,h1,h2,h3⟩:=hv;exact lent h1 (Nat.le_refl _) h2 h3
  |tip ver tz=>obtain⟨a,b,o,sz,cap,h1,h2,h3,h4,_⟩:=hv;exact lent h1 h2 (fun h=>h3 (by omega)) h4
  |bor=>obtain⟨a,b,o,sz,cap,h1,h2,h3,h4⟩:=hv;exact lent h1 h2 h3 h4
 | ref lv sl ver off len sz =>
  simp only[cellF] at hx
  cases he:elsOf m (.ref lv sl ver off len sz) with
  |none=>rw[he] at hx;cases hx
  |some els=>
   rw[he] at hx
   simp only[Option.map_some] at hx
   injection hx with hx;subst hx
   obtain⟨a,cap,sz',b,o,h1,h2,h3,h4⟩:=elsOf_ok h he (.of_VC hv)
   exact lent h1 h2 h3 h4
 |_=>cases hx
theorem chunk_get {α : Type} {sz:Nat} : ∀ {n:Nat} {l:List α},l.length=n*sz→(chunk sz n l).length=n∧(∀ e∈chunk sz n l,e.length=sz)∧∀ (i j:Nat) e x,(chunk sz n l)[i]?=some e→e[j]?=some x→j<sz∧i<n∧l[i*sz+j]?=some x
 |0,l,h=>⟨rfl,fun e he=>(by cases he),fun i j e x h1 _=>by simp[chunk] at h1⟩
 | n + 1, l, h => by
  have hl:(l.drop sz).length=n*sz:=by rw[List.length_drop,h,Nat.succ_mul];omega
  obtain⟨h1,h2,h3⟩:=chunk_get (sz:=sz) hl
  have ht:(l.take sz).length=sz:=by rw[List.length_take,h,Nat.succ_mul];omega
  refine⟨by simp[chunk,h1],fun e he=>?_,fun i j e x he hx=>?_⟩
  ·simp only [chunk, List.mem_cons] at he
   rcases he with rfl|he
   ·exact ht
   ·exact h2 e he
  ·cases i with
   | zero =>
    simp only[chunk,List.getElem?_cons_zero,Option.some.injEq] at he
    subst he
    have hj:j<sz:=by
     have:=(List.getElem?_eq_some_iff.1 hx).1
     omega
    rw[List.getElem?_take,if_pos hj] at hx
    exact⟨hj,by omega,by rw[Nat.zero_mul,Nat.zero_add];exact hx⟩
   |succ i=>
    simp only[chunk,List.getElem?_cons_succ] at he
    obtain⟨g1,g2,g3⟩:=h3 i j e x he hx
    refine⟨g1,by omega,?_⟩
    rw[List.getElem?_drop] at g3
    rw[Nat.succ_mul,show i*sz+sz+j=sz+(i*sz+j) by omega]
    exact g3
theorem cellsG_at {f:AV→Option D} : ∀ {xs:List AV} {ys:List D},cellsG f xs=some ys→ys.length=xs.length∧∀ (k:Nat) (y:D),ys[k]?=some y→∃ a,xs[k]?=some a∧f a=some y
 |[],ys,h=>by simp only[cellsG] at h;injection h with h;subst h;exact⟨rfl,fun k y hk=>by simp at hk⟩
 | a :: xs, ys, h => by
  simp only[cellsG] at h
  split at h
  ·rename_i z zs h1 h2
   injection h with h;subst h
   obtain⟨g1,g2⟩:=cellsG_at h2
   refine⟨by simp[g1],fun k y hk=>?_⟩
   cases k with
   |zero=>simp only[List.getElem?_cons_zero,Option.some.injEq] at hk;subst hk;exact⟨a,rfl,h1⟩
   |succ k=>simpa using g2 k y (by simpa using hk)
  ·cases h
theorem deepF_ok {m:List (Tr Ent)} {t:Tr Unit} (h:MemOK X m t):∀ (k:Nat) {x:AV} {y:D} {v:Value},deepF m k x=some y→VC X x v→DR X.w X.all.F y v
 |0,_,_,_,hx,hv=>cellF_ok h hx hv
 | k + 1, x, y, v, hx, hv => by
  unfold deepF at hx
  split at hx
  ·rename_i lv sl ver off n sz
   split at hx
   ·rename_i cs hb
    split at hx
    ·rename_i hoff
     obtain⟨ds,hd,rfl⟩:=opt_map hx
     obtain⟨L,cap0,hL,rfl,hcap,hn,_⟩:=hv
     obtain⟨L',hL',hE⟩:=h.ents lv sl _ (boxAt_mem hb)
     have hL':X.ρ ver=some L':=hL'
     rw[hL] at hL';injection hL' with hL';subst hL'
     obtain⟨_,hblk,hno,hcell⟩:=hE
     obtain⟨hdl,cell⟩:=cellsG_at hd
     have hdl:ds.length=n*sz:=by rw[hdl,List.length_take,List.length_drop];omega
     obtain⟨c1,c2,c3⟩:=chunk_get hdl
     refine DR.of_lies (b:=L.b) (o:=L.o+off) (sz:=sz) ⟨c2,fun i e j x h1 h2=>?_⟩ c1 hcap fun _=>rfl
     obtain⟨g1,g2,g3⟩:=c3 i j e x h1 h2
     refine⟨hblk.lt,?_⟩
     obtain⟨a,ha,hca⟩:=cell _ _ g3
     rw[List.getElem?_take] at ha
     split at ha
     ·rw [List.getElem?_drop] at ha
      obtain⟨u,hu,hvc⟩:=hcell _ _ ha
      refine⟨u,?_,deepF_ok h k hca hvc⟩
      rw[show L.o+off+i*sz+j=L.o+(off+(i*sz+j)) by omega]
      exact hu
     ·cases ha
    ·cases hx
   ·cases hx
  ·exact cellF_ok h hx hv
theorem deepFs_ok {m:List (Tr Ent)} {t:Tr Unit} (h:MemOK X m t) {k:Nat} : ∀ {xs:List AV} {ys:List D} {vs:List Value},cellsG (deepF m k) xs=some ys→All2 (VC X) xs vs→All2 (DR X.w X.all.F) ys vs
 |[],ys,[],hx,_=>by simp only[cellsG] at hx;injection hx with hx;subst hx;trivial
 | x :: xs, ys, v :: vs, hx, hv => by
  simp only[cellsG] at hx
  split at hx
  ·rename_i y ys' h1 h2
   injection hx with hx;subst hx
   exact⟨deepF_ok h k h1 hv.1,deepFs_ok h h2 hv.2⟩
  ·cases hx
 |[],_,_ :: _,_,hv=>hv.elim
 |_ :: _,_,[],_,hv=>hv.elim
theorem argF_ok {m:List (Tr Ent)} {t:Tr Unit} (h:MemOK X m t) {x y:AV} {v:Value} (hx:argF m x=some y) (hv:VR X x v):V1 X.all y v:=by
 have one:∀ {x:AV},(deepF m 2 x).map AV.d=some y→VC X x v→V1 X.all y v:=by
  intro x hx hv
  obtain⟨d,hd,rfl⟩:=opt_map hx
  exact .of_VC (deepF_ok h 2 hd hv)
 cases x with
 |agg cs=>
  simp only[argF] at hx
  obtain⟨ds,hd,rfl⟩:=opt_map hx
  obtain⟨vs,rfl,h3⟩:=hv
  exact⟨vs,rfl,(deepFs_ok h hd h3).mapD (X:=X.all)⟩
 |clo f c=>
  cases c with
  |nil=>simp only[argF] at hx;injection hx with hx;subst hx;exact .of_VC (clo_nil hv)
  |cons=>simp[argF,deepF,cellF] at hx
 |tup cs=>simp[argF,deepF,cellF] at hx
 |dptr e off=>
  simp only[argF] at hx;injection hx with hx;subst hx
  obtain⟨b,o,rfl,hc⟩:=hv
  refine⟨b,o,rfl,fun j x hj=>?_⟩
  obtain⟨hF,u,hu,hd⟩:=hc j x hj
  refine⟨.inl ?_,u,hu,DR.mono (fun b o hb=>h.inF b o hb) hd⟩
  rcases hF with hF|hF
  ·exact h.inF _ _ hF
  ·exact h.low _ hF
 | ptr lv sl ver i off =>
  simp only[argF] at hx
  split at hx
  ·rename_i cs hb hi
   obtain⟨ds,hd,rfl⟩:=opt_map hx
   have hi:=Nat.eq_of_beq_eq_true hi
   subst hi
   obtain⟨L,hL,rfl⟩:=hv
   obtain⟨L',hL',hE⟩:=h.ents lv sl _ (boxAt_mem hb)
   have hL':X.ρ ver=some L':=hL'
   rw[hL] at hL';injection hL' with hL';subst hL'
   obtain⟨_,hblk,hno,hcell⟩:=hE
   obtain⟨_,cell⟩:=cellsG_at hd
   refine⟨L.b,L.o,by rw[Nat.zero_mul,Nat.add_zero],fun j x hj=>⟨.inl hblk.lt,?_⟩⟩
   obtain⟨a,ha,hca⟩:=cell _ _ hj
   obtain⟨u,hu,hvc⟩:=hcell _ _ ha
   exact⟨u,hu,deepF_ok h 2 hca hvc⟩
  ·cases hx
 |_=>simp only[argF] at hx;exact one hx hv
theorem argsF_ok {m:List (Tr Ent)} {t:Tr Unit} (h:MemOK X m t):∀ {xs ys:List AV} {vs:List Value},argsF m xs=some ys→All2 (VR X) xs vs→All2 (V1 X.all) ys vs
 |[],ys,[],hx,_=>by simp only[argsF] at hx;injection hx with hx;subst hx;trivial
 | x :: xs, ys, v :: vs, hx, hv => by
  simp only[argsF] at hx
  split at hx
  ·rename_i y ys' h1 h2
   injection hx with hx;subst hx
   exact⟨argF_ok h h1 hv.1,argsF_ok h h2 hv.2⟩
  ·cases hx
 |[],_,_ :: _,_,hv=>hv.elim
 |_ :: _,_,[],_,hv=>hv.elim
theorem flatC_move {A B:Cx} {x:AV} {v:Value} (h:flatC x=true) (hv:VC A x v):VC B x v:=by
 unfold flatC at h
 split at h
 ·cases hv with
  |sc v h1=>exact DR.sc v h1
 ·cases hv with
  |sl els a n cap sz b o g hn hcap hsz ha hF hc hr=>exact DR.sl [] a n cap sz b o g hn hcap (fun _ h=>by cases h) ha (fun _ _ _ _ h=>by cases h) (fun _ _ _ _ h=>by cases h) (fun _ _ _ _ h=>by cases h)
 ·cases h
theorem flatCs_move {A B:Cx} : ∀ {xs:List AV} {vs:List Value},xs.all flatC=true→All2 (VC A) xs vs→All2 (VC B) xs vs
 |[],[],_,_=>trivial
 |x :: xs,v :: vs,h,hv=>by
  rw[List.all_cons,Bool.and_eq_true] at h
  exact⟨flatC_move h.1 hv.1,flatCs_move h.2 hv.2⟩
 |[],_ :: _,_,hv=>hv.elim
 |_ :: _,[],_,hv=>hv.elim
theorem flat1_move {A B:Cx} {x:AV} {v:Value} (h:flat1 x=true) (hv:V1 A x v):V1 B x v:=by
 cases x with
 |agg cs=>obtain⟨vs,rfl,h3⟩:=hv;exact⟨vs,rfl,flatCs_move h h3⟩
 |d x=>exact .of_VC (flatC_move (A:=A) h hv)
 |_=>cases h
theorem flat1s_move {A B:Cx} : ∀ {xs:List AV} {vs:List Value},xs.all flat1=true→All2 (V1 A) xs vs→All2 (V1 B) xs vs
 |[],[],_,_=>trivial
 |x :: xs,v :: vs,h,hv=>by
  rw[List.all_cons,Bool.and_eq_true] at h
  exact⟨flat1_move h.1 hv.1,flat1s_move h.2 hv.2⟩
 |[],_ :: _,_,hv=>hv.elim
 |_ :: _,[],_,hv=>hv.elim
theorem flatR_move {A B:Cx} {x:AV} {v:Value} (h:flatR x=true) (hv:VR A x v):VR B x v:=by
 cases x with
 |tup cs=>obtain⟨vs,rfl,h3⟩:=hv;exact⟨vs,rfl,flat1s_move h h3⟩
 |agg cs=>exact .of_V1 (flat1_move (A:=A) h hv)
 |d x=>exact .of_V1 (flat1_move (A:=A) h hv)
 |_=>cases h
theorem doFlat_ok {call:Go.Eng.Call} (hcall:CallOK P call) (hs:Sim X nt s a) {f:Nat} {args:List AV} {vargs:Array Value} {r:Res}
  (hargs:All2 (VR X) args vargs.toList) (hr:doFlat call s f args=some r)
  (hrun:(∃ fn,P.funcs[f]?=some fn∧fn.body.isSome=true∧(fn.name == "runtime.NumGoroutine")=false)→(execOp a.eval o).run P X.w=.ok (.enter f vargs) X.w):After P X s a o dst nvi r:=by
 unfold doFlat at hr
 split at hr
 ·cases hr
 ·rename_i as hl
  split at hr
  ·cases hr
  ·rename_i r' cm ts n' hc
   split at hr
   case h_2=>cases hr
   rename_i v hi
   split at hr
   case h_2=>cases hr
   rename_i hfl
   injection hr with hr;subst hr
   intro K Q hK
   have hV:=argsF_ok hs.mem hl hargs
   obtain⟨hfn,hcalls⟩:=hcall f as [.lf] .lf 0 r' cm ts n' hc X.all vargs (all_mem X hs.mem.lows) (fun _ _=>rfl) hV
   unfold Oper.wp
   rw[hrun hfn,Oper.upon_enter]
   refine Calls.mono hcalls ?_
   rintro e w' ⟨Z,v',rfl,rfl,hxZ,hvZ,hmZ,_,_⟩
   show K (a.put o.dst v') Z.w
   have hblk:∀ b,b<X.w.heap.size→Z.w.heap[b]?=X.w.heap[b]?:=fun b hb=>hxZ.below.block b hb
   let Y:Cx:={ w:=Z.w,F:=X.F,ρ:=X.ρ,old:=X.old }
   have hx:Ext X Y:=⟨rfl,hxZ.below.mono hs.mem.low,fun _ _ h=>h,fun b o h=>hxZ.keep b o (hs.mem.inF b o h),fun _ _ h=>h,fun _ _ h=>.inl h⟩
   have hm:MemOK Y s.mem s.tips:=hs.mem.move hx (fun k v L hk hv hc=>by
     obtain⟨M,hM,h2⟩:=hs.mem.holds_ρ hk
     rw[hv] at hM;injection hM with hM;subst hM
     exact hblk _ (h2 hc).1) (fun _ _ _ _ _ _ _ h=>h) fun b o h=>Nat.lt_of_lt_of_le (hs.mem.inF b o h) hxZ.below.size
   have hvr:VR Y v v':=by
    rcases impR_b hmZ hi hvZ with⟨_,hb⟩|⟨_,_,_,_,h,_⟩|h
    ·exact flatR_move hfl (hb { Z with F:=fun _ _=>True } ⟨rfl,fun _ _ _=>trivial,fun h=>absurd h (by omega),fun _ _ _ _ _ _ _ _ _ _ _=>trivial⟩)
    ·cases h
    ·simp at h
   refine hK Y v' hx hvr ?_ (DomOK.of_ρ rfl)
   exact hm
theorem doCall_ok {call:Go.Eng.Call} (hcall:CallOK P call) (hs:Sim X nt s a) (hfr:X.ρ nvi=none) (hnv:nvi<s.nv) (hdom:∀ v,s.nv≤v→X.ρ v=none) {shared:Bool} {f pk lv sl:Nat} {args:List AV} {vargs:Array Value} {r:Res}
  (hargs:All2 (VR X) args vargs.toList) (hr:doCall call shared pk s lv sl nvi f args=some r)
  (hrun:(∃ fn,P.funcs[f]?=some fn∧fn.body.isSome=true∧(fn.name == "runtime.NumGoroutine")=false)→(execOp a.eval o).run P X.w=.ok (.enter f vargs) X.w):After P X s a o dst nvi r:=by
 unfold doCall at hr
 split at hr
 ·split at hr
  ·rename_i hba
   rw[boxArgs_eq hba] at hargs
   exact call_box hcall hs hargs hr hrun
  split at hr
  ·cases hr
  ·rename_i as ks hl
   split at hr
   ·cases hr
   ·rename_i r' cm ts n' hc
    split at hr
    ·cases hr
    ·rename_i v us hi
     split at hr
     ·cases hr
     ·rename_i u hu
      injection hr with hr;subst hr
      exact call_iso hcall hs hfr (lends_ok hs.mem (ks:=ks) hl hargs fun p hp=>hp) hc hi hu hrun
 ·split at hr
  ·cases hr
  ·rename_i hnt
   split at hr
   ·cases hr
   ·rename_i r' cm ts n' hc
    split at hr
    ·cases hr
    ·rename_i v us hi
     split at hr
     ·cases hr
     ·rename_i u hu
      injection hr with hr;subst hr
      exact call_shared hcall hs hfr hnv hdom hargs hnt hc hi hu hrun
end
end Go.Eng
namespace Go.Eng
open Go Go.RowKit
theorem memGet_upds (f:Nat×Nat→Option Ent):∀ (kp:List (Nat×Nat)) (m:List (Tr Ent)) (lv sl:Nat),memGet (applyUpd m (kp.map fun k=>(k.1,k.2,f k))) lv sl=if (lv,sl)∈kp∧lv<m.length then f (lv,sl) else memGet m lv sl
 |[],m,lv,sl=>by simp[applyUpd]
 | (a, b) :: r, m, lv, sl => by
  simp only[List.map_cons,applyUpd]
  rw[memGet_upds f r,memGet_set]
  have hl:(memSet m a b (f (a,b))).length=m.length:=by simp[memSet]
  rw[hl]
  by_cases hr:(lv,sl)∈r∧lv<m.length
  ·rw[if_pos hr,if_pos ⟨List.mem_cons_of_mem _ hr.1,hr.2⟩]
  ·rw [if_neg hr]
   by_cases hab:a=lv∧b=sl∧a<m.length
   ·obtain ⟨rfl, rfl, h3⟩ := hab
    rw[if_pos ⟨rfl,rfl,h3⟩,if_pos ⟨List.mem_cons_self ..,h3⟩]
   ·rw [if_neg hab, if_neg]
    rintro⟨h1,h2⟩
    rcases List.mem_cons.1 h1 with h1|h1
    ·injection h1 with h1 h3
     exact hab ⟨h1.symm,h3.symm,by omega⟩
    ·exact hr ⟨h1,h2⟩
theorem memGet_big {m:List (Tr Ent)} {lv sl:Nat} (h:m.length≤lv):memGet m lv sl=none:=by
 unfold memGet
 rw[List.getElem?_eq_none h];rfl
theorem memGet_hide (m:List (Tr Ent)) (kp:List (Nat×Nat)) (lv sl:Nat):memGet (hide m kp) lv sl=if (lv,sl)∈kp then none else memGet m lv sl:=by
 unfold hide
 rw[memGet_upds (fun _=>none)]
 by_cases hk:(lv,sl)∈kp
 ·rw [if_pos hk]
  by_cases hl:lv<m.length
  ·rw[if_pos ⟨hk,hl⟩]
  ·rw[if_neg fun h=>hl h.2,memGet_big (by omega)]
 ·rw[if_neg fun h=>hk h.1,if_neg hk]
theorem applyUpd_len:∀ (u:List (Nat×Nat×Option Ent)) (m:List (Tr Ent)),(applyUpd m u).length=m.length
 |[],_=>rfl
 |(lv,sl,e) :: r,m=>(applyUpd_len r _).trans (by simp[memSet])
theorem hide_length (m:List (Tr Ent)) (kp:List (Nat×Nat)):(hide m kp).length=m.length:=applyUpd_len _ _
theorem fit_length (old m:List (Tr Ent)):(fit old m).length=old.length:=by
 unfold fit
 rw[List.length_take,List.length_append,List.length_replicate]
 omega
theorem memGet_fit (old m:List (Tr Ent)) (lv sl:Nat):memGet (fit old m) lv sl=if lv<old.length then memGet m lv sl else none:=by
 unfold fit memGet
 rw[List.getElem?_take]
 by_cases hl:lv<old.length
 ·rw [if_pos hl, if_pos hl, List.getElem?_append]
  by_cases hm:lv<m.length
  ·rw[if_pos hm]
  ·rw [if_neg hm, List.getElem?_eq_none (l := m) (by omega), List.getElem?_replicate]
   split
   ·simp
   ·rfl
 ·rw[if_neg hl,if_neg hl];rfl
theorem memGet_back (old m:List (Tr Ent)) (kp:List (Nat×Nat)) (lv sl:Nat):memGet (back old m kp) lv sl=if kp=[] then memGet m lv sl else if (lv,sl)∈kp then memGet old lv sl else if lv<old.length then memGet m lv sl else none:=by
 cases kp with
 |nil=>simp[back]
 | cons k r =>
  rw[if_neg (by simp)]
  unfold back
  rw[memGet_upds (fun k=>memGet old k.1 k.2),fit_length,memGet_fit]
  by_cases hk:(lv,sl)∈k :: r
  ·rw [if_pos hk]
   by_cases hl:lv<old.length
   ·rw[if_pos ⟨hk,hl⟩]
   ·rw[if_neg fun h=>hl h.2,if_neg hl,memGet_big (by omega)]
  ·rw[if_neg fun h=>hk h.1,if_neg hk]
theorem back_length {old m:List (Tr Ent)} {kp:List (Nat×Nat)} (h:kp≠[]):(back old m kp).length=old.length:=by
 cases kp with
 |nil=>exact absurd rfl h
 |cons k r=>unfold back;rw[applyUpd_len,fit_length]
theorem back_some {old m:List (Tr Ent)} {kp kr:List (Nat×Nat)} (hkr:∀ k∈kr,k ∉ kp→memGet m k.1 k.2=memGet old k.1 k.2) {lv sl:Nat} {e:Ent} (h:memGet (back old m (kp++kr)) lv sl=some e):((lv,sl)∈kp∧memGet old lv sl=some e)∨((lv,sl) ∉ kp∧memGet m lv sl=some e):=by
 rw[memGet_back] at h
 split at h
 ·rename_i hk
  have:kp=[]:=(List.append_eq_nil_iff.1 hk).1
  subst this
  exact .inr ⟨by simp,h⟩
 ·by_cases hk : (lv, sl) ∈ kp
  ·rw [if_pos (List.mem_append_left _ hk)] at h
   exact .inl ⟨hk,h⟩
  ·split at h
   ·rename_i hk2
    have:=(List.mem_append.1 hk2).resolve_left hk
    exact .inr ⟨hk,(hkr _ this hk).trans h⟩
   ·split at h
    ·exact .inr ⟨hk,h⟩
    ·cases h
theorem sV_eq {a b:Value} (h:sV a b=true):a=b:=by
 unfold sV at h
 split at h
 ·rw[eq_of_beq h]
 ·rw [Bool.and_eq_true] at h
  rw[of_decide_eq_true h.1,of_decide_eq_true h.2]
 ·rename_i a b
  have:=of_decide_eq_true h
  have:a=b:=by
   cases a with
   |mk a=>cases b with
    |mk b=>congr 1;exact Array.toList_inj.1 this
  rw[this]
 ·rfl
 ·cases h
theorem sL_eq {α : Type} {f : α→α→Bool} (hf:∀ a b,f a b=true→a=b):∀ {l m:List α},sL f l m=true→l=m
 |[],[],_=>rfl
 |a :: l,b :: m,h=>by
  simp only[sL,Bool.and_eq_true] at h
  rw[hf a b h.1,sL_eq hf h.2]
 |[],_ :: _,h=>by cases h
 |_ :: _,[],h=>by cases h
theorem sD_eq:∀ (k:Nat) (a b:D),sD k a b=true→a=b
 |0,_,_,h=>by cases h
 |k+1,a,b,h=>by
  unfold sD at h
  split at h
  ·rw[sV_eq h]
  ·rw[sL_eq (fun _ _ h=>sL_eq (fun a b h=>sD_eq k a b h) h) h]
  ·rfl
  ·cases h
theorem sA_eq (a b:AV) (h:sA a b=true):a=b:=by
 have n:∀ {a b:Nat},Nat.beq a b=true→a=b:=Nat.eq_of_beq_eq_true
 unfold sA at h
 split at h
 ·rw[sD_eq _ _ _ h]
 ·rw[sL_eq (fun _ _ h=>sL_eq (fun a b h=>sD_eq 9 a b h) h) h]
 ·simp only [Bool.and_eq_true] at h
  obtain⟨h1,h2,h3,h4,h5,h6⟩:=h
  rw[n h1,n h2,n h3,n h4,n h5,n h6]
 ·simp only [Bool.and_eq_true] at h
  obtain⟨h1,h2,h3,h4,h5,h6⟩:=h
  rw[n h1,n h2,n h3,n h4,n h5,n h6]
 ·simp only [Bool.and_eq_true] at h
  obtain⟨h1,h2,h3,h4,h5⟩:=h
  rw[n h1,n h2,n h3,n h4,n h5]
 ·cases h
theorem sE_eq {a b:Option Ent} (h:sE a b=true):a=b:=by
 unfold sE at h
 split at h
 ·rw [Bool.and_eq_true] at h
  rw[Nat.eq_of_beq_eq_true h.1,sL_eq sA_eq h.2]
 ·rfl
 ·cases h
theorem okT_get:∀ {t:Tr Ent} {n:Nat} {e:Ent},okT t=true→t.get? n=some e→okE e=true
 |.lf,_,_,_,h=>by cases h
 | .nd v l r, n, e, ho, h => by
  simp only[okT,Bool.and_eq_true] at ho
  unfold Tr.get? at h
  split at h
  ·subst h;exact ho.1
  ·split at h
   ·exact okT_get ho.2.1 h
   ·exact okT_get ho.2.2 h
theorem okM_get {m:List (Tr Ent)} {lv sl:Nat} {e:Ent} (ho:m.all okT=true) (h:memGet m lv sl=some e):okE e=true:=by
 unfold memGet at h
 cases hm:m[lv]? with
 |none=>rw[hm] at h;cases h
 |some t=>
  rw[hm] at h
  exact okT_get (List.all_eq_true.1 ho t (List.mem_of_getElem? hm)) h
section
variable {X:Cx} {O:Nat→Prop}
def Cx.olds (X:Cx) (O:Nat→Prop):Cx:={ w:=X.w,F:=X.F,ρ:=X.ρ,old:=O }
theorem VC0.more (h:∀ b,X.old b→O b) {x:AV} {v:Value} (hv:VC0 X x v):VC0 (X.olds O) x v:=by
 cases x with
 | own els o =>
  cases o with
  |bor=>
   obtain⟨a,b,o,sz,cap,h1,h2,h3,h4⟩:=hv
   exact⟨a,b,o,sz,cap,h1,h2,h3,h4.region fun b _ hb=>h b hb⟩
  |full=>exact hv
  |tip ver tz=>exact hv
 |dptr e off=>
  obtain⟨b,o,hp,hc⟩:=hv
  exact⟨b,o,hp,fun j x hj=>⟨(hc j x hj).1.imp id (h b),(hc j x hj).2⟩⟩
 |d x=>exact hv
 |ref=>exact hv
 |ptr=>exact hv
 |bref=>exact hv
 |mp=>exact hv
 |agg=>exact hv.elim
 |tup=>exact hv.elim
 |clo=>exact hv.elim
theorem VC.more (h:∀ b,X.old b→O b) {x:AV} {v:Value} (hv:VC X x v):VC (X.olds O) x v:=by
 cases x with
 |clo f c=>obtain⟨vs,h1,h2⟩:=hv;exact⟨vs,h1,h2.mono fun _ _=>VC0.more h⟩
 |_=>simp only[VC] at hv ⊢;exact VC0.more h hv
theorem V1.more (h:∀ b,X.old b→O b) {x:AV} {v:Value} (hv:V1 X x v):V1 (X.olds O) x v:=by
 cases x with
 |agg cs=>obtain⟨vs,h1,h2⟩:=hv;exact⟨vs,h1,h2.mono fun _ _=>VC.more h⟩
 |_=>simp only[V1] at hv ⊢;exact VC.more h hv
theorem VR.more (h:∀ b,X.old b→O b) {x:AV} {v:Value} (hv:VR X x v):VR (X.olds O) x v:=by
 cases x with
 |tup cs=>obtain⟨vs,h1,h2⟩:=hv;exact⟨vs,h1,h2.mono fun _ _=>V1.more h⟩
 |_=>simp only[VR] at hv ⊢;exact V1.more h hv
theorem okC_old {x:AV} {v:Value} (ho:okC x=true) (hv:VC X x v):VC (X.olds O) x v:=by
 cases x with
 |own els o=>
  cases o with
  |bor=>cases ho
  |full=>exact hv
  |tip ver tz=>exact hv
 |dptr e off=>cases ho
 |clo f c=>
  obtain⟨vs,h1,h2⟩:=hv
  cases c with
  |cons=>cases ho
  |nil=>exact⟨vs,h1,by cases hvs:vs.toList with|nil=>trivial|cons a b=>rw[hvs] at h2;exact h2.elim⟩
 |d x=>exact hv
 |ref=>exact hv
 |ptr=>exact hv
 |bref=>exact hv
 |mp=>exact hv
 |agg=>exact hv.elim
 |tup=>exact hv.elim
theorem okCs_old:∀ {xs:List AV} {vs:List Value},xs.all okC=true→All2 (VC X) xs vs→All2 (VC (X.olds O)) xs vs
 |[],[],_,_=>trivial
 |x :: xs,v :: vs,ho,hv=>by
  rw[List.all_cons,Bool.and_eq_true] at ho
  exact⟨okC_old ho.1 hv.1,okCs_old ho.2 hv.2⟩
 |[],_ :: _,_,hv=>hv.elim
 |_ :: _,[],_,hv=>hv.elim
theorem ok1_old {x:AV} {v:Value} (ho:ok1 x=true) (hv:V1 X x v):V1 (X.olds O) x v:=by
 cases x with
 |agg cs=>obtain⟨vs,h1,h2⟩:=hv;exact⟨vs,h1,okCs_old ho h2⟩
 |_=>simp only[V1] at hv ⊢;exact okC_old ho hv
theorem ok1s_old:∀ {xs:List AV} {vs:List Value},xs.all ok1=true→All2 (V1 X) xs vs→All2 (V1 (X.olds O)) xs vs
 |[],[],_,_=>trivial
 |x :: xs,v :: vs,ho,hv=>by
  rw[List.all_cons,Bool.and_eq_true] at ho
  exact⟨ok1_old ho.1 hv.1,ok1s_old ho.2 hv.2⟩
 |[],_ :: _,_,hv=>hv.elim
 |_ :: _,[],_,hv=>hv.elim
theorem okR_old {x:AV} {v:Value} (ho:okR x=true) (hv:VR X x v):VR (X.olds O) x v:=by
 cases x with
 |tup cs=>obtain⟨vs,h1,h2⟩:=hv;exact⟨vs,h1,ok1s_old ho h2⟩
 |_=>simp only[VR] at hv ⊢;exact ok1_old ho hv
end
section
variable {P:Program} {X:Cx} {s:St} {a:Act} {o:Oper} {dst:Option Nat} {nvi:Nat}
def Hid (X:Cx) (m:List (Tr Ent)) (kp:List (Nat×Nat)) (b:Nat):Prop:=∃ lv sl e L,(lv,sl)∈kp∧memGet m lv sl=some e∧e.fz=false∧X.ρ e.ver=some L∧0<L.cap∧L.b=b
theorem doHide_ok {nt:NT} {call:Go.Eng.Call} (hcall:CallOK P call) (hs:Sim X nt s a) (hfr:X.ρ nvi=none) (hnv:nvi<s.nv) (hdom:∀ v,s.nv≤v→X.ρ v=none) {row:Nat} {kp kr:List (Nat×Nat)} {lv sl f:Nat} {args:List AV} {vargs:Array Value} {r:Res}
  (hargs:All2 (VR X) args vargs.toList) (hr:doHide call row kp kr s lv sl nvi f args=some r)
  (hrun:(∃ fn,P.funcs[f]?=some fn∧fn.body.isSome=true∧(fn.name == "runtime.NumGoroutine")=false)→(execOp a.eval o).run P X.w=.ok (.enter f vargs) X.w):After P X s a o dst nvi r:=by
 have hmem:=hs.mem
 unfold doHide at hr
 split at hr
 ·cases hr
 rename_i hnt
 split at hr
 ·cases hr
 rename_i r' cm ts n' hc
 split at hr
 ·cases hr
 rename_i val us hi
 split at hr
 ·cases hr
 rename_i u hu
 split at hr
 case h_2=>cases hr
 rename_i hok
 injection hr with hr;subst hr
 rw[Bool.and_eq_true,Bool.and_eq_true] at hok
 have hkr:∀ k∈kr,k ∉ kp→memGet (applyUpd (cm.take s.mem.length) u) k.1 k.2=memGet s.mem k.1 k.2:=fun k hk hn=>by
  have:=sE_eq (List.all_eq_true.1 hok.2.2 k hk)
  rw[this,memGet_hide,if_neg hn]
 have hok:okR val=true∧(applyUpd (cm.take s.mem.length) u).all okT=true:=⟨hok.1,hok.2.1⟩
 let O:Nat→Prop:=fun b=>X.old b∨Hid X s.mem kp b
 have hO:∀ b,X.old b→O b:=fun b hb=>.inl hb
 let X':=X.olds O
 let s':St:={ s with mem:=hide s.mem kp }
 have hlen:s'.mem.length=s.mem.length:=hide_length _ _
 have hget:∀ {lv sl:Nat} {e:Ent},memGet (hide s.mem kp) lv sl=some e→(lv,sl) ∉ kp∧memGet s.mem lv sl=some e:=by
  intro lv sl e h
  rw[memGet_hide] at h
  split at h
  ·cases h
  ·rename_i hk;exact⟨hk,h⟩
 have unhid:∀ {k:Nat×Nat×Nat} {v:Nat} {L:Loc},Holds s.mem s.tips k v→(∀ lv sl,(lv,sl)∈kp→k≠keyE lv sl)→X.ρ v=some L→0<L.cap→¬O L.b:=by
  rintro k v L hk hne hL hc (h|⟨lv0,sl0,e0,L0,h1,h2,h3,h4,h5,h6⟩)
  ·obtain ⟨M, hM, h2⟩ := hmem.holds_ρ hk
   rw[hL] at hM;injection hM with hM;subst hM
   exact (h2 hc).2 h
  ·exact hmem.apart k (keyE lv0 sl0) v e0.ver L L0 hk (.inl ⟨lv0,sl0,e0,rfl,h2,rfl,h3⟩) (hne _ _ h1) hL h4 hc h5 h6.symm
 have blk:∀ {b n:Nat},¬O b→Block X b n→Block X' b n:=fun ho hb=>⟨ho,hb.2⟩
 have hmem':MemOK X' (hide s.mem kp) s.tips:=by
  refine⟨fun lv sl e he=>?_,fun v hv=>?_,fun k k' v v' L L' h1 h2 h3 h4 h5=>?_,hmem.inF,?_,?_,hmem.lows.gk⟩
  ·obtain ⟨hk, he⟩ := hget he
   obtain⟨L,hL,hE⟩:=hmem.ents lv sl e he
   refine⟨L,hL,?_⟩
   have hold:e.fz=false→0<L.cap→¬O L.b:=fun hz hc=>unhid (.inl ⟨lv,sl,e,rfl,he,rfl,hz⟩) (fun lv0 sl0 h0 hq=>by
    obtain⟨rfl,rfl⟩:=keyE_inj hq
    exact hk h0) hL hc
   cases e with
   |row v els=>exact⟨hE.1,hE.2.1,fun hc=>⟨blk (hold rfl hc) (hE.2.2.1 hc).1,(hE.2.2.1 hc).2⟩,hE.2.2.2⟩
   | box v cells => exact ⟨hE.1, blk (hold rfl (by have := hE.1; omega)) hE.2.1, hE.2.2.1, fun j x hj => by
     obtain⟨u,h1,h2⟩:=hE.2.2.2 j x hj
     exact⟨u,h1,h2.more hO⟩⟩
   |fro v els=>exact hE
   |mp v ks=>exact⟨hE.1,hold rfl (by have:=hE.1;omega),hE.2.2⟩
  ·obtain ⟨L, hL, hT⟩ := hmem.tips v hv
   exact⟨L,hL,fun hc=>⟨blk (unhid (.inr ⟨rfl,hv⟩) (fun _ _ _ hq=>keyE_ne_keyT hq.symm) hL hc) (hT hc).1,(hT hc).2⟩⟩
  ·have up : ∀ {k : Nat × Nat × Nat} {v : Nat}, Holds (hide s.mem kp) s.tips k v → Holds s.mem s.tips k v := by
    rintro k v (⟨lv,sl,e,hk,he,hv⟩|h)
    ·exact .inl ⟨lv,sl,e,hk,(hget he).2,hv⟩
    ·exact .inr h
   exact hmem.apart k k' v v' L L' (up h1) (up h2) h3 h4 h5
  ·rintro b (h | ⟨lv0, sl0, e0, L0, h1, h2, h3, h4, h5, rfl⟩)
   ·exact hmem.low b h
   ·obtain ⟨M, hM, hq⟩ := hmem.holds_ρ (k := keyE lv0 sl0) (v := e0.ver) (.inl ⟨lv0, sl0, e0, rfl, h2, rfl, h3⟩)
    rw[h4] at hM;injection hM with hM;subst hM
    exact (hq h5).1
  ·exact fun b hb=>.inl (hmem.lows.gb b hb)
 have hargs':All2 (VR X') args vargs.toList:=hargs.mono fun _ _ h=>h.more hO
 have core:=call_shared0 (X:=X') (s:=s') (dst:=dst) hcall hmem' hfr hnv hdom hargs' hnt hc (by rw[hlen];exact hi) hu hrun
 intro K Q hK
 refine core K Q fun Y' v' hx' hv' hm' hd'=>?_
 let Y:=Y'.olds X.old
 have hx:Ext X Y:=⟨rfl,hx'.below.mono hO,hx'.reg,hx'.keep,hx'.loc,fun b o hb=>(hx'.new b o hb).imp id fun h q=>h (hO b q)⟩
 have hm':MemOK Y' (applyUpd (cm.take s'.mem.length) u) ts:=hm'
 rw[hlen] at hm'
 have old':∀ b,¬Y'.old b→¬X.old b∧¬O b:=fun b hb=>by
  rw[hx'.base] at hb
  exact⟨fun q=>hb (hO b q),hb⟩
 have blk':∀ {b n:Nat},Block Y' b n→Block Y b n:=fun hb=>⟨(old' _ hb.1).1,hb.2⟩
 have hidE:∀ {lv sl:Nat} {e:Ent},(lv,sl)∈kp→memGet s.mem lv sl=some e→∃ L,X.ρ e.ver=some L∧Y.ρ e.ver=some L∧EntOK Y e L:=by
  intro lv sl e hk he
  obtain⟨L,hL,hE⟩:=hmem.ents lv sl e he
  refine⟨L,hL,hx'.loc _ _ hL,?_⟩
  have hid:e.fz=false→0<L.cap→O L.b:=fun hz hc=>.inr ⟨lv,sl,e,L,hk,he,hz,hL,hc,rfl⟩
  have heap:e.fz=false→0<L.cap→Y'.w.heap[L.b]?=X.w.heap[L.b]?:=fun hz hc=>hx'.below.block _ (hid hz hc)
  have cel:∀ {b:Nat} (o:Nat),Y'.w.heap[b]?=X.w.heap[b]?→Y'.w.cell? ⟨b,o,none⟩=X.w.cell? ⟨b,o,none⟩:=fun o hb=>by simp[World.cell?,hb]
  have noF:e.fz=false→0<L.cap→(∀ o,¬X.F L.b o)→∀ o,¬Y'.F L.b o:=fun hz hc hn o hF=>by
   rcases hx'.new _ _ hF with h|h
   ·exact hn o h
   ·exact h (hid hz hc)
  have blkh:e.fz=false→0<L.cap→∀ {n:Nat},Block X L.b n→Block Y L.b n:=fun hz hc n hb=>by
   obtain⟨h1,c,ce,h2,h3⟩:=hb
   exact⟨h1,c,ce,by show Y'.w.heap[L.b]?=_;rw[heap hz hc];exact h2,h3⟩
  cases e with
  |fro v els=>exact⟨hE.1,hE.2.ext hx⟩
  | row v els =>
   refine⟨hE.1,hE.2.1,fun hc=>⟨blkh rfl hc (hE.2.2.1 hc).1,noF rfl hc (hE.2.2.1 hc).2⟩,fun i e j x h1 h2=>?_⟩
   have hc:0<L.cap:=by
    have:=(List.getElem?_eq_some_iff.1 h1).1
    have:=hE.1
    omega
   obtain⟨u,hu,hd⟩:=hE.2.2.2 i e j x h1 h2
   exact⟨u,(cel _ (heap rfl hc)).trans hu,hd.ext hx⟩
  |box v cells=>
   have hc:0<L.cap:=by have:=hE.1;omega
   refine⟨hE.1,blkh rfl hc hE.2.1,noF rfl hc hE.2.2.1,fun j x hj=>?_⟩
   obtain⟨u,hu,hd⟩:=hE.2.2.2 j x hj
   exact⟨u,(cel _ (heap rfl hc)).trans hu,hd.ext hx⟩
  |mp v ks=>
   have hc:0<L.cap:=by have:=hE.1;omega
   obtain⟨h1,h2,h3,es,clock,h4,h5⟩:=hE
   exact⟨h1,h2,noF rfl hc h3,es,clock,(heap rfl hc).trans h4,h5⟩
 have rest:∀ {k:Nat×Nat×Nat} {v:Nat} {L:Loc},Holds (applyUpd (cm.take s.mem.length) u) ts k v→Y.ρ v=some L→0<L.cap→¬O L.b:=by
  intro k v L hk hL hc
  obtain⟨M,hM,h2⟩:=hm'.holds_ρ hk
  have:Y.ρ v=some M:=hM
  rw[hL] at this;injection this with this;subst this
  exact (old' _ (h2 hc).2).2
 refine hK Y v' hx (okR_old hok.1 hv') ?_ hd'
 show MemOK Y (back s.mem (applyUpd (cm.take s.mem.length) u) (kp++kr)) ts
 refine⟨fun lv sl e he=>?_,fun v hv=>?_,fun k k' v v' L L' h1 h2 hne h3 h4 h5 h6=>?_,hm'.inF,fun b hb=>Nat.lt_of_lt_of_le (hmem.low b hb) hx.below.size,hmem.lows.gb,hm'.lows.gk⟩
 ·rcases back_some hkr he with ⟨hk, he⟩ | ⟨hk, he⟩
  ·obtain ⟨L, _, h1, h2⟩ := hidE hk he
   exact⟨L,h1,h2⟩
  ·obtain ⟨L, hL, hE⟩ := hm'.ents lv sl e he
   refine⟨L,hL,?_⟩
   have hoe:=okM_get hok.2 he
   cases e with
   |fro v els=>exact hE
   |row v els=>exact⟨hE.1,hE.2.1,fun hc=>⟨blk' (hE.2.2.1 hc).1,(hE.2.2.1 hc).2⟩,hE.2.2.2⟩
   | box v cells => exact ⟨hE.1, blk' hE.2.1, hE.2.2.1, fun j x hj => by
     obtain⟨u,g1,g2⟩:=hE.2.2.2 j x hj
     exact⟨u,g1,okC_old (List.all_eq_true.1 hoe x (List.mem_of_getElem? hj)) g2⟩⟩
   |mp v ks=>exact⟨hE.1,(old' _ hE.2.1).1,hE.2.2⟩
 ·obtain ⟨L, hL, hT⟩ := hm'.tips v hv
  exact⟨L,hL,fun hc=>⟨blk' (hT hc).1,(hT hc).2⟩⟩
 ·have cls : ∀ {k : Nat × Nat × Nat} {v : Nat}, Holds (back s.mem (applyUpd (cm.take s.mem.length) u) (kp ++ kr)) ts k v → (∃ lv sl e, (lv, sl) ∈ kp ∧ k = keyE lv sl ∧ memGet s.mem lv sl = some e ∧ e.ver = v ∧ e.fz = false) ∨ Holds (applyUpd (cm.take s.mem.length) u) ts k v := by
   rintro k v (⟨lv,sl,e,hk,he,hv⟩|h)
   ·rcases back_some hkr he with ⟨hk', he⟩ | ⟨hk', he⟩
    ·exact .inl ⟨lv,sl,e,hk',hk,he,hv⟩
    ·exact .inr (.inl ⟨lv,sl,e,hk,he,hv⟩)
   ·exact .inr (.inr h)
  have hidO:∀ {lv sl:Nat} {e:Ent} {M:Loc},(lv,sl)∈kp→memGet s.mem lv sl=some e→e.fz=false→Y.ρ e.ver=some M→0<M.cap→X.ρ e.ver=some M∧O M.b:=by
   intro lv sl e M hk he hz hM hc
   obtain⟨L,g1,g2,_⟩:=hidE hk he
   rw[hM] at g2;injection g2 with g2;subst g2
   exact⟨g1,.inr ⟨lv,sl,e,M,hk,he,hz,g1,hc,rfl⟩⟩
  rcases cls h1 with⟨lv,sl,e,q1,q2,q3,rfl,q5⟩|h1
  ·obtain ⟨x1, x2⟩ := hidO q1 q3 q5 h3 h5
   rcases cls h2 with⟨lv',sl',e',p1,p2,p3,rfl,p5⟩|h2
   ·obtain ⟨y1, _⟩ := hidO p1 p3 p5 h4 h6
    exact hmem.apart k k' _ _ L L' (.inl ⟨lv,sl,e,q2,q3,rfl,q5⟩) (.inl ⟨lv',sl',e',p2,p3,rfl,p5⟩) hne x1 y1 h5 h6
   ·intro hb
    exact rest h2 h4 h6 (hb ▸ x2)
  ·rcases cls h2 with ⟨lv', sl', e', p1, p2, p3, rfl, p5⟩ | h2
   ·obtain ⟨_, y2⟩ := hidO p1 p3 p5 h4 h6
    intro hb
    exact rest h1 h3 h5 (hb ▸ y2)
   ·exact hm'.apart k k' v v' L L' h1 h2 hne h3 h4 h5 h6
end
end Go.Eng
