/- A part of the proof: EngLb, EngLbA, SymLb. -/
import Derived.Test.YthphehfgekjooaaGreatDoorSymB
import Derived.Lib.AtoiAll
import Derived.Shelf.Strings.Fields
import Derived.Shelf.Strings.Split
import Derived.Shelf.Strconv.Itoa3
import Derived.Lib.Atoi
import Derived.Shelf.Strconv.Atoi
import Derived.Shelf.Strconv.AtoiErr
import Derived.Shelf.Strconv.AtoiAll
import Derived.Test.YthphehfgekjooaaGreatDoorSymK
import Derived.KernelRfl
set_option linter.unusedSimpArgs false
namespace Go.bq
open Go Go.Shelf Go.RowKit
set_option linter.unusedVariables false
noncomputable section
def DI (mem:List (Tr aZ)) (aB:Tr Unit) (nv:Nat):Bool:=match mem,aB,nv with
  |[.lf],.lf,0=>true
  |_,_,_=>false
theorem Rm {Y:Cx} (hF:∀ b o,Y.F b o→b<Y.w.heap.size) (hl:Y3 Y):aA Y [.lf] .lf:=by
  refine⟨fun lv sl e he=>?_,fun v hv=>by simp at hv,fun k k' v v' L L' a _ _ _ _ _=>?_,hF,hl⟩
  · unfold aC at he
    grind[Tr.get?,l7,aZ.aa]
  · rcases a with ⟨lv, _, _, _, he, _⟩ | ⟨_, he⟩
    · unfold aC at he
      grind[aZ.fz,aZ.aa,Tr.get?,bw,Holds]
    simp_all
def k8 (a b:Go.bq.Call):Go.bq.Call:=fun f args mem aB nv=>match a f args mem aB nv with
  |some r=>some r
  |none=>b f args mem aB nv
theorem Fl {P:Program} {a b:Go.bq.Call} (ha:bX P a) (hb:bX P b):bX P (k8 a b):=by
  intro f args mem aB nv r mem' qm Ma h
  unfold k8 at h
  split at h
  · rename_i he
    cases h
    exact ha f args mem aB nv _ mem' qm Ma he
  · exact hb f args mem aB nv r mem' qm Ma h
def qu (f:Nat) (ans:List AV→Option AV):Go.bq.Call:=fun g args mem aB nv=>match DI mem aB nv&&Nat.beq g f with
  |true=>(ans args).map fun v=>(v,[.lf],.lf,0)
  |false=>none
def Cx.behind (X:Cx) (w':World):Cx:={ w:=w',F:=fun b o=>X.F b o∨(X.w.heap.size≤b∧b<w'.heap.size),ρ:=X.ρ,old:=X.old }
theorem Il {X:Cx} (hl:∀ b,X.old b→b<X.w.heap.size) {w':World} (h:Below X.w.heap.size X.w w'):dK X.old X.w w':=⟨h.os,h.tape,h.output,h.size,fun b hb=>h.block b (hl b hb)⟩
theorem zh {P:Program} {f:Nat} {ans:List AV→Option AV} (hfn:∃ fn,P.funcs[f]?=some fn∧fn.body.isSome=true∧(fn.name == "runtime.NumGoroutine")=false)
    (h:∀ args v,ans args=some v→∀ (X:Cx) (bu:Array Value),Y3 X→aq (V1 X) args bu.toList→Calls P f bu X.w fun e w'=>∃ u,e=.returned u∧Below X.w.heap.size X.w w'∧VR (X.behind w') v u):bX P (qu f ans):=by
  intro g args mem aB nv r mem' qm Ma hr X bu hmem hdom hargs
  unfold qu at hr
  split at hr
  · rename_i hq
    rw[Bool.and_eq_true] at hq
    have hg:=Nat.eq_of_beq_eq_true hq.2
    subst hg
    obtain⟨v,hv,he⟩:=aG hr
    simp at he
    obtain⟨rfl,rfl,rfl,rfl⟩:=he
    have hn:nv=0:=by
      grind[DI,Cx.behind,VR,V1,aq]
    subst hn
    refine⟨hfn,(h args v hv X bu hmem.pz hargs).mono ?_⟩
    rintro e w' ⟨u,rfl,hb,hvr⟩
    have hst:=Il hmem.low hb
    refine⟨X.behind w',u,rfl,rfl,⟨rfl,hst,fun b o hb=>.inl hb,fun b o hF=>hb.cell (hmem.ni b o hF),fun _ _ h=>h,fun b o hF=>?_⟩,hvr,Rm (fun b o hF=>?_) ⟨fun b ho=>Nat.lt_of_lt_of_le (hmem.low b ho) hb.size,hmem.pz.gb,CF (fun b hg=>hb.block b (hmem.low b (hmem.pz.gb b hg))) hmem.pz.gk⟩,Nat.le_refl _,fun u L h=>.inl h⟩
    · rcases hF with hF | hF
      · exact .inl hF
      · exact .inr fun ho=>absurd (hmem.low b ho) (by omega)
    · rcases hF with hF | hF
      · exact Nat.lt_of_lt_of_le (hmem.ni b o hF) hb.size
      · exact hF.2
  grind
theorem MJ {X : Cx} {t : TypeId} {l : List ByteArray} {ls : List (List UInt8)} (hls : l.map (·.data.toList) = ls) {n : Nat} (hn : n = l.length) :
    VR (X.behind (X.w.alloc (.cells (l.map Value.string).toArray t))) (.d (.sl (ls.map fun x=>[.sc (.string ⟨x.toArray⟩)]))) (.slice (some ⟨X.w.heap.size,0,none⟩) n n):=by
  subst hn
  have hlen:(ls.map fun x=>([.sc (.string ⟨x.toArray⟩)]:List D)).length=l.length:=by grind
  refine .eL (show DR _ _ _ _ from DR.fD (b:=X.w.heap.size) (o:=0) (sz:=1) ⟨?_,fun i e j x h1 h2=>?_⟩ hlen (Nat.le_refl _) fun _=>rfl)
  · grind
  · rw [List.getElem?_map] at h1
    cases hi:ls[i]? with
    |none=>grind
    | some y =>
      rw[hi] at h1
      cases h1
      cases j with
      |succ j=>grind
      | zero =>
        cases h2
        subst hls
        rw[List.getElem?_map] at hi
        cases hb:l[i]? with
        |none=>grind
        | some s =>
          rw[hb] at hi
          cases hi
          refine⟨.inr ⟨Nat.le_refl _,by show _<(X.w.heap.push _).size;rw[Array.size_push];omega⟩,.string s,?_,?_⟩
          · simp_all[Cx.behind]
          · exact .sc _ rfl
theorem zi {X:Cx} {s:ByteArray} {v:Value} (h:V1 X (.d (.sc (.string s))) v):v=.string s:=by
  cases h with
  |sc _ _=>rfl
theorem U6 {X:Cx} {k:IntKind} {n:Int} {v:Value} (h:V1 X (.d (.sc (.int k n))) v):v=.int k n:=by
  cases h with
  |sc _ _=>rfl
theorem args1 {X:Cx} {a:AV} {bu:Array Value} (h:aq (V1 X) [a] bu.toList):∃ v,bu = #[v]∧V1 X a v:=by
  match hv:bu.toList,h with
  |[v],⟨h1,_⟩=>grind
theorem args2 {X:Cx} {a b:AV} {bu:Array Value} (h:aq (V1 X) [a,b] bu.toList):∃ u v,bu = #[u,v]∧V1 X a u∧V1 X b v:=by
  match hv:bu.toList,h with
  |[u,v],⟨h1,h2,_⟩=>grind
def small (l:List UInt8):Bool:=l.all fun b=>Nat.blt b.toNat 128
def KF : List AV → Option AV
  | [.d (.sc (.string s))] => match small s.data.toList && Nat.blt s.data.toList.length 1000000 with
    |true=>some (.d (.sl ((Lib.fields s.data.toList).map fun x=>[.sc (.string ⟨x.toArray⟩)])))
    |false=>none
  |_=>none
theorem Im (s:ByteArray):s.size=s.data.toList.length:=Lib.size_eq s
theorem Oj {P : Program} {ρ : Ren} (L : Go.Proofs.Lays.n157 P ρ) (hfn : ∃ fn, P.funcs[ρ.f 157]? = some fn ∧ fn.body.isSome = true ∧ (fn.name == "runtime.NumGoroutine") = false)
    (hi9:(P.info? (ρ.t 9)).map (fun i=>(i.zero,i.size,i.bytes))=some (some (.string ByteArray.empty),1,16))
    (hT:∀ w,LY w→∀ c:Nat,c<256→w.cell? ⟨ρ.g 0,c,none⟩=some (.int .u8 (if Lib.isSp (UInt8.ofNat c) then 1 else 0))):bX P (qu (ρ.f 157) KF):=by
  refine zh hfn fun args v mW X bu mw hargs=>?_
  unfold KF at mW
  split at mW
  · rename_i s
    split at mW
    · rename_i hq
      cases mW
      obtain⟨u,rfl,hu⟩:=args1 hargs
      have:=zi hu
      subst this
      simp at hq
      refine (Go.Proofs.Any.strings_Fields_core L hi9 s X.w (by omega) (fun j b hj=>?_) (hT X.w mw.gk)).mono ?_
      · have := List.all_eq_true.1 hq.1 b (List.mem_of_getElem? hj)
        simpa using this
      · rintro e w' ⟨rfl, rfl⟩
        have h1:((Lib.fields s.data.toList).map fun l=>Value.string ⟨l.toArray⟩)=((Lib.fields s.data.toList).map fun l=>(⟨l.toArray⟩:ByteArray)).map Value.string:=by rw[List.map_map];rfl
        rw[h1]
        refine⟨_,rfl,(Below.refl _ _).alloc (Nat.le_refl _) _,?_⟩
        exact MJ (by rw[List.map_map];exact (List.map_congr_left fun x _=>by simp).trans (List.map_id _)) (by simp)
    · cases mW
  · cases mW
def KG : List AV → Option AV
  | [.d (.sc (.string s)), .d (.sc (.string p))] => match Nat.blt s.data.toList.length 1000000 && Nat.blt 0 p.data.toList.length with
    |true=>some (.d (.sl ((Lib.splitK p.data.toList 0 (Lib.count s.data.toList p.data.toList) s.data.toList).map fun x=>[.sc (.string ⟨x.toArray⟩)])))
    |false=>none
  |_=>none
theorem Rn {P:Program} {ρ : Ren} (L:Go.Proofs.Lays.n146 P ρ) (hfn:∃ fn,P.funcs[ρ.f 146]?=some fn∧fn.body.isSome=true∧(fn.name == "runtime.NumGoroutine")=false)
    (hi9:(P.info? (ρ.t 9)).map (fun i=>(i.zero,i.size,i.bytes))=some (some (.string ByteArray.empty),1,16))
    (hm:∀ w,LY w→∃ m,w.cell? ⟨ρ.g 1,0,none⟩=some (.int .i64 m)):bX P (qu (ρ.f 146) KG):=by
  refine zh hfn fun args v mW X bu mw hargs=>?_
  unfold KG at mW
  split at mW
  · rename_i s p
    split at mW
    · rename_i hq
      cases mW
      obtain⟨u,u2,rfl,hu,hu2⟩:=args2 hargs
      have:=zi hu
      subst this
      have:=zi hu2
      subst this
      rw[Bool.and_eq_true] at hq
      have hsz:s.size<1000000:=by simp_all
      have hp:1≤p.size:=by rw[Im];have:=hq.2;rw[Nat.blt_eq] at this;omega
      obtain⟨m,hm⟩:=hm X.w mw.gk
      refine (Go.Proofs.Any.strings_Split L hi9 s p m X.w (by omega) hm hp).mono ?_
      rintro e w' ⟨rfl,rfl⟩
      refine⟨_,rfl,(Below.refl _ _).alloc (Nat.le_refl _) _,?_⟩
      exact MJ (by rw[Lib.splitB_data]) (by rw[Lib.splitB_all p hp 0 _ s rfl])
    grind
  grind
def A2 (s : List UInt8) : Option (Int × Bool) := match Nat.ble s.length 18 with
  | true => match Lib.atoi s with
    |some n=>some (n,false)
    |none=>some (0,true)
  | false => match Nat.ble s.length 1000000 with
    | true => match Lib.atoiAll s with
      |.ok n=>some (n,false)
      |_=>none
    |false=>none
def ZW:Bool→D
  |true=>.er
  |false=>.sc .nilIface
def Ol:List AV→Option AV
  |[.d (.sc (.string s))]=>(A2 s.data.toList).map fun r=>.gN [.d (.sc (.int .i64 r.1)),.d (ZW r.2)]
  |_=>none
def U7 (n:Nat):List UInt8:=match Nat.blt n 10 with
  |true=>[UInt8.ofNat (48+n)]
  |false=>[UInt8.ofNat (48+n / 10),UInt8.ofNat (48+n % 10)]
theorem Fm {n:Nat} (h:n<100):Lib.decDigits n=U7 n:=by
  unfold U7
  cases hb:Nat.blt n 10 with
  | true =>
    have:n<10:=by simp_all
    rw[Lib.decDigits,dif_pos this]
  | false =>
    have h1:¬n<10:=by intro q;rw[(by rw[Nat.blt_eq];exact q:Nat.blt n 10=true)] at hb;cases hb
    rw[Lib.decDigits,dif_neg h1,Lib.decDigits,dif_pos (by omega)];rfl
def vp : Int → Option (List UInt8)
  | .ofNat k => match Nat.blt k 100 with
    |true=>some (U7 k)
    | false => match Nat.ble k 9223372036854775807 with
      |true=>some (Lib.itoa (.ofNat k))
      |false=>none
  | .negSucc k => match Nat.blt k 99 with
    |true=>some (45 :: U7 (k+1))
    | false => match Nat.ble k 9223372036854775807 with
      |true=>some (Lib.itoa (.negSucc k))
      |false=>none
theorem Ro {n : Int} {l : List UInt8} (h : vp n = some l) : (-9223372036854775808 ≤ n ∧ n ≤ 9223372036854775807) ∧ Lib.itoa n = l := by
  unfold vp at h
  split at h
  · rename_i k
    split at h
    · have hk : k < 100 := by simp_all
      injection h with h
      exact⟨by simp only[Int.ofNat_eq_natCast];omega,by rw[←h];exact Fm hk⟩
    · split at h
      · have hk : k ≤ 9223372036854775807 := by simp_all
        injection h with h
        exact⟨by simp only[Int.ofNat_eq_natCast];omega,h⟩
      · cases h
  · rename_i k
    split at h
    · have hk : k < 99 := by simp_all
      injection h with h
      refine⟨by omega,?_⟩
      unfold Lib.itoa
      rw[if_pos (by omega),show (Int.negSucc k).natAbs=k+1 from rfl,Fm (by omega),h]
    · split at h
      · have hk : k ≤ 9223372036854775807 := by simp_all
        injection h with h
        exact⟨by omega,h⟩
      · cases h
def Om:List AV→Option AV
  |[.d (.sc (.int .i64 n))]=>(vp n).map fun l=>.d (.sc (.string ⟨l.toArray⟩))
  |_=>none
theorem U8 {P:Program} {ρ : Ren} (L:Go.Proofs.LaysM.n171 P ρ) (hfn:∃ fn,P.funcs[ρ.f 171]?=some fn∧fn.body.isSome=true∧(fn.name == "runtime.NumGoroutine")=false)
    (hv:∀ w,LY w→Lib.TabIs P w "internal/strconv.uint64pow10" .u64 Lib.pow10Tab):bX P (qu (ρ.f 171) Om):=by
  refine zh hfn fun args v mW X bu mw hargs=>?_
  unfold Om at mW
  split at mW
  · rename_i n
    obtain⟨u,rfl,hu⟩:=args1 hargs
    have:=U6 hu
    subst this
    obtain⟨l,hl,mW⟩:=Option.map_eq_some_iff.1 mW
    subst mW
    obtain⟨⟨h0,h1⟩,hl⟩:=Ro hl
    refine (Go.Proofs.Any.strconv_Itoa L n h0 h1 X.w (hv X.w mw.gk)).mono ?_
    rintro e w' ⟨rfl,k,os,rfl⟩
    rw[hl]
    refine⟨_,rfl,⟨rfl,rfl,rfl,?_,fun b hb=>?_⟩,.eL (DR.sc _ rfl)⟩
    · simp_all
    · show (X.w.heap ++ os)[b]? = _
      grind
  grind
end
end Go.bq
namespace Go.bq
open Go Go.Shelf Go.RowKit
set_option linter.unusedVariables false
noncomputable section
theorem U9 {P : Program} {ρ : Ren} (L : Go.Proofs.Lays.n172 P ρ) (L2 : Go.Proofs.LaysC.n172 P ρ) (hfn : ∃ fn, P.funcs[ρ.f 172]? = some fn ∧ fn.body.isSome = true ∧ (fn.name == "runtime.NumGoroutine") = false)
    (hv:∀ w,LY w→∃ te pe,w.cell? ⟨ρ.g 15,0,none⟩=some (.iface te pe)):bX P (qu (ρ.f 172) Ol):=by
  refine zh hfn fun args v mW X bu mw hargs=>?_
  unfold Ol at mW
  split at mW
  · rename_i s
    obtain⟨r,hr,mW⟩:=Option.map_eq_some_iff.1 mW
    subst mW
    obtain⟨u,rfl,hu⟩:=args1 hargs
    have:=zi hu
    subst this
    unfold A2 at hr
    split at hr
    · have hsz : s.size ≤ 18 := by simp_all
      split at hr
      · rename_i n hn
        cases hr
        refine (Go.Proofs.Any.strconv_Atoi L s n hsz hn X.w).mono ?_
        rintro e w' ⟨rfl,t,rfl⟩
        exact⟨_,rfl,Lib.bytesWorld_below _ _ _,_,rfl,.eL (DR.sc _ rfl),.eL (DR.sc _ rfl),trivial⟩
      · rename_i hn
        cases hr
        obtain⟨te,pe,hev⟩:=hv X.w mw.gk
        refine (Go.Proofs.Any.strconv_Atoi_err L2 s hsz hn _ X.w hev (.inr ⟨te,pe,rfl⟩)).mono ?_
        rintro e w' ⟨N,rfl,_,_,hb⟩
        exact⟨_,rfl,hb,_,rfl,.eL (DR.sc _ rfl),.eL (DR.er _ ⟨_,_,rfl⟩),trivial⟩
    · split at hr
      · have hsz : s.size ≤ 1000000 := by rw [Im]; simp_all
        split at hr
        · rename_i n hn
          cases hr
          refine (Go.Proofs.Any.strconv_Atoi_ok L2 s (by omega) n hn X.w).mono ?_
          rintro e w' ⟨rfl,rfl|⟨t,rfl⟩⟩
          · exact⟨_,rfl,Below.refl _ _,_,rfl,.eL (DR.sc _ rfl),.eL (DR.sc _ rfl),trivial⟩
          · exact⟨_,rfl,Lib.bytesWorld_below _ _ _,_,rfl,.eL (DR.sc _ rfl),.eL (DR.sc _ rfl),trivial⟩
        · cases hr
      · cases hr
  grind
end
end Go.bq
namespace Go.Sym
open Go Go.bq
noncomputable section
theorem sI {T:Tb} {f:Nat} {c:Callee} (hf:T.fs f=none) (hb:EZ c.args=none) (zf:c.rk=0)
    (h:∀ a y,c.F a=some y→∃ vs,cE c.args (unpack c.ta a)=some (vs,[])∧∀ xs,aq (RV ρ0 0 []) vs xs→∃ rv,T.O f xs [.lf] .lf 0=some (rv,[.lf],.lf,0)∧
      ∀ ws w,gI c.res (unpack c.tr y)=some (ws,[])→mT ws=some w→∀ lv sl aH,∃ a',fF [.lf] 0 0 lv sl aH rv=some (a',[])∧∀ ρ B m,RV ρ B m w a'):nL T f c:=by
  refine⟨fun _ a y hy=>?_,fun _ _ hb'=>by rw[hb] at hb';cases hb'⟩
  obtain⟨vs,h1,h2⟩:=h a y hy
  refine⟨vs,h1,fun xs has=>?_⟩
  obtain⟨rv,h3,h4⟩:=h2 xs has
  refine⟨1,rv,[.lf],.lf,0,fun n hn=>?_,fun ws sH=>⟨fun _ w hw lv sl aH=>h4 ws w sH hw lv sl aH,fun _ _ _ _ _ _ _ _ h0=>absurd zf h0⟩⟩
  match n,hn with
  |n+1,_=>simp[gU,hf,h3]
def oH:Callee:=⟨[.c .str],[.str],[(false,[.sl .str .d])],[.sl .str],0,fun s=>match small s&&Nat.blt s.length 1000000 with
  |true=>some (Lib.fields s)
  |false=>none⟩
theorem Io {xs:List AV} {s:List UInt8} (h:aq (RV ρ0 0 []) [.c (.str s)] xs):xs=[.d (.sc (.string ⟨s.toArray⟩))]:=by
  match xs,h with
  |[a],h=>rw[show a=_ from h.1]
theorem Fo {T:Tb} {f:Nat} (hf:T.fs f=none) (h:∀ xs v,KF xs=some v→T.O f xs [.lf] .lf 0=some (v,[.lf],.lf,0)):nL T f oH:=by
  refine sI hf rfl rfl fun s y hy=>⟨[.c (.str s)],rfl,fun xs has=>?_⟩
  have:=Io has
  subst this
  have hy:(match small s&&Nat.blt s.length 1000000 with
    |true=>some (Lib.fields s)
    |false=>none)=some y:=hy
  split at hy
  · rename_i hq
    refine⟨.d (.sl ((Lib.fields s).map fun x=>[.sc (.string ⟨x.toArray⟩)])),h _ _ (by simp only[KF,hq]),fun ws w sH hw lv sl aH=>?_⟩
    have:ws=[(false,[.sl .str (Lib.fields s) .d])]:=by
      have:gI oH.res (unpack oH.tr (Lib.fields s))=some ([(false,[.sl .str (Lib.fields s) .d])],[]):=rfl<;>grind
    subst this
    have:w=.c (.sl .str (Lib.fields s) .d):=by cases hw;grind
    subst this
    exact⟨_,rfl,fun ρ B m=>.inl rfl⟩
  grind
def rK:Callee:=⟨[.c .str,.c .str],[.str,.str],[(false,[.sl .str .d])],[.sl .str],0,fun x=>match Nat.blt x.1.length 1000000&&Nat.blt 0 x.2.length with
  |true=>some (Lib.splitK x.2 0 (Lib.count x.1 x.2) x.1)
  |false=>none⟩
theorem Ip {T:Tb} {f:Nat} (hf:T.fs f=none) (h:∀ xs v,KG xs=some v→T.O f xs [.lf] .lf 0=some (v,[.lf],.lf,0)):nL T f rK:=by
  refine sI hf rfl rfl fun s y hy=>⟨[.c (.str s.1),.c (.str s.2)],rfl,fun xs has=>?_⟩
  obtain⟨s,q⟩:=s
  have:xs=[.d (.sc (.string ⟨s.toArray⟩)),.d (.sc (.string ⟨q.toArray⟩))]:=by
    match xs,has with
    |[a,b],h=>rw[show a=_ from h.1,show b=_ from h.2.1]
  subst this
  have hy:(match Nat.blt s.length 1000000&&Nat.blt 0 q.length with
    |true=>some (Lib.splitK q 0 (Lib.count s q) s)
    |false=>none)=some y:=hy
  split at hy
  · rename_i hq
    refine⟨.d (.sl ((Lib.splitK q 0 (Lib.count s q) s).map fun x=>[.sc (.string ⟨x.toArray⟩)])),h _ _ (by simp only[KG,hq]),fun ws w sH hw lv sl aH=>?_⟩
    generalize Lib.splitK q 0 (Lib.count s q) s=y at *
    have:ws=[(false,[.sl .str y .d])]:=by
      have:gI rK.res (unpack rK.tr y)=some ([(false,[.sl .str y .d])],[]):=rfl<;>grind
    subst this
    have:w=.c (.sl .str y .d):=by cases hw;grind
    subst this
    exact⟨_,rfl,fun ρ B m=>.inl rfl⟩
  grind
def vq:Callee:=⟨[.c .str],[.str],[(false,[.int .i64]),(false,[.er])],[.int .i64,.bool],0,A2⟩
theorem KH {T:Tb} {f:Nat} (hf:T.fs f=none) (h:∀ xs v,Ol xs=some v→T.O f xs [.lf] .lf 0=some (v,[.lf],.lf,0)):nL T f vq:=by
  refine sI hf rfl rfl fun s y hy=>⟨[.c (.str s)],rfl,fun xs has=>?_⟩
  have:=Io has
  subst this
  have hy:A2 s=some y:=hy
  refine⟨_,h _ (.gN [.d (.sc (.int .i64 y.1)),.d (ZW y.2)]) (show (A2 s).map (fun r:Int×Bool=>AV.gN [.d (.sc (.int .i64 r.1)),.d (ZW r.2)])=some _ by rw[hy];rfl),fun ws w sH hw lv sl aH=>?_⟩
  obtain⟨n,b⟩:=y
  have:ws=[(false,[.int .i64 n]),(false,[.er b])]:=by
    have:gI vq.res (unpack vq.tr (n,b))=some ([(false,[.int .i64 n]),(false,[.er b])],[]):=rfl<;>grind
  subst this
  have:w=.gN [(false,[.int .i64 n]),(false,[.er b])]:=by cases hw;grind
  subst this
  cases b<;>exact⟨_,rfl,fun ρ B m=>⟨_,rfl,⟨_,rfl,rfl⟩,⟨_,rfl,rfl⟩,trivial⟩⟩
def pY:Callee:=⟨[.c (.int .i64)],[.int .i64],[(false,[.str])],[.str],0,vp⟩
theorem KI {T:Tb} {f:Nat} (hf:T.fs f=none) (h:∀ xs v,Om xs=some v→T.O f xs [.lf] .lf 0=some (v,[.lf],.lf,0)):nL T f pY:=by
  refine sI hf rfl rfl fun n y hy=>⟨[.c (.int .i64 n)],rfl,fun xs hxs=>?_⟩
  have:xs=[.d (.sc (.int .i64 n))]:=by
    match xs,hxs with
    |[a],h=>rw[show a=_ from h.1]
  subst this
  have fin:∀ ws w,gI pY.res (unpack pY.tr y)=some (ws,[])→mT ws=some w→∀ lv sl aH,∃ a',fF [.lf] 0 0 lv sl aH (.d (.sc (.string ⟨y.toArray⟩)))=some (a',[])∧∀ ρ B m,RV ρ B m w a':=by
    intro ws w sH hw lv sl aH
    have:ws=[(false,[.str y])]:=by
      have:gI pY.res (unpack pY.tr y)=some ([(false,[.str y])],[]):=rfl<;>grind
    subst this
    have:w=.c (.str y):=by cases hw;grind
    subst this
    exact⟨_,rfl,fun ρ B m=>rfl⟩
  have hy:vp n=some y:=hy
  exact⟨_,h _ _ (show (vp n).map (fun l=>AV.d (.sc (.string ⟨l.toArray⟩)))=some _ by rw[hy];rfl),fin⟩
def Rp (sz:Nat):sQ:=⟨1,9,[.t 2],
 (.seq
  (.region [⟨(some 2),.Gv (.c (.own [] .full)),none,0,0⟩] false)
  (.seq
   (.region [⟨(some 3),.Gv (.t 0),none,0,0⟩,
     ⟨(some 4),.Gv (.t 0),none,0,0⟩,
     ⟨(some 5),.len (.t 4),none,0,0⟩,
     ⟨(some 6),.Gv (.t 0),none,0,0⟩,
     ⟨(some 7),.len (.t 6),none,0,0⟩,
     ⟨(some 8),.slice sz (.t 3) none (some (.t 5)) (some (.t 7)),none,0,0⟩,
     ⟨(some 2),.Gv (.t 8),none,0,0⟩] false)
   .ret)),false⟩
def ZX (a:AV) (n:Nat):St:={ slots:=uo (uo (uo (uo (uo (uo (dm 0 [a] .lf) (some 2) (.own [] .full)) (some 3) a) (some 4) a) (some 5) (n6 n)) (some 6) a) (some 7) (n6 n),mem:=[.lf],aB:=.lf,nv:=8 }
def adz (a : AV) (n : Nat) (call : bq.Call) (sh : Nat → Bool) (o : Option AV) : Option (AV × List (Tr aZ) × Tr Unit × Nat) :=
  match (match Option.map (fun s'=>(AX.normal,s')) (match o.bind eU.pure with
    |none=>none
    |some e=>ko call sh 1 6 [⟨(some 2),.Gv (.t 8),none,0,0⟩] ((ZX a n).app (some 8) e)) with
    |some (.normal,s')=>exec call sh 47 .ret s'
    |r=>r) with
  |some (.normal,s)|some (.ret,s)=>(kq s [.t 2]).map fun vs=>(iH vs,s.mem,s.aB,s.nv)
  |_=>none
theorem wO {T : Tb} {f : Nat} {fn : sQ} (hf : T.fs f = some fn) (n : Nat) (args : List AV) (mem : List (Tr aZ)) (aB : Tr Unit) (nv : Nat) : gU T (n + 1) f args mem aB nv = (match Nat.beq args.length fn.np with
      |false=>none
      | true => match exec (gU T n) (fun g => ((T.fs g).map (·.sh)).getD false) n fn.body { slots := dm 0 args .lf, mem, aB, nv } with
        |some (.normal,s)|some (.ret,s)=>(kq s fn.res).map fun vs=>(iH vs,s.mem,s.aB,s.nv)
        |_=>none):=by simp[gU,hf];rfl
theorem Rq {T:Tb} {f sz:Nat} (hf:T.fs f=some (Rp sz)) (els:List (List D)) (a:AV) (hs:els.all (fun e=>e.length==sz)=true) (h:a=.d (.sl els)∨∃ o,o≠.bB∧a=.own els o) :
    ∃ cm ts nv,gU T 50 f [a] [.lf] .lf 0=some (.own els .full,cm,ts,nv):=by
  have go:∀ a:AV,gU T 50 f [a] [.lf] .lf 0=adz a els.length (gU T 49) (fun g=>((T.fs g).map (·.sh)).getD false) (dV sz a 0 (some els.length) (some els.length))→dV sz a 0 (some els.length) (some els.length)=some (.own els .full)→∃ cm ts nv,gU T 50 f [a] [.lf] .lf 0=some (.own els .full,cm,ts,nv):=by
    intro a h1 h2
    rw[h2] at h1
    exact⟨_,_,_,h1⟩
  rcases h with rfl|⟨o,ho,rfl⟩
  · refine go _ ?_ (by simp [dV, hs])
    rw[show (50:Nat)=49+1 from rfl,wO hf]
    kernel_rfl
  · cases o with
    |bB=>exact absurd rfl ho
    | full =>
      refine go _ ?_ (by simp[dV,hs])
      rw[show (50:Nat)=49+1 from rfl,wO hf]
      kernel_rfl
    | bR =>
      refine go _ ?_ (by simp[dV,hs])
      rw[show (50:Nat)=49+1 from rfl,wO hf]
      kernel_rfl
def zj (t:Ty):Callee:=⟨[.c (.sl t .d)],[.sl t],[(false,[.sl t .full])],[.sl t],65535,fun l=>some l⟩
theorem KJ {T:Tb} {f:Nat} {t:Ty} (hf:T.fs f=some (Rp t.size)):nL T f (zj t):=by
  refine⟨fun _ l y hy=>⟨[.c (.sl t l .d)],rfl,fun xs has=>?_⟩,fun _ _ hb=>by cases hb⟩
  cases hy
  match xs,has with
  | [a], ha =>
    obtain⟨cm,ts,nv,hr⟩:=Rq hf (aS t l) a (fI t l) ha.1
    refine⟨50,_,cm,ts,nv,fun m hm=>Mq 50 m hm _ _ _ _ _ _ hr,fun ws sH=>⟨fun h=>absurd rfl h,fun row lv sl aa p Cd us w _ AZ _ hp _ hw=>?_⟩⟩
    have:ws=[(false,[.sl t l .full])]:=by
      have:gI (zj t).res (unpack (zj t).tr l)=some ([(false,[.sl t l .full])],[]):=rfl<;>grind
    subst this
    cases hp
    have hw:w=.c (.sl t l .full):=by cases hw;grind
    subst hw
    have AZ:row % 65536=65535:=AZ
    refine⟨.own (aS t l) .full,?_,fun _ _ _ _=>rfl⟩
    simp only[fF,kj,aW,AZ,Bool.and_false,show Nat.beq 1 65535=false from rfl,show Nat.beq 65535 65535=true from rfl,Bool.or_true]
    rfl
end
end Go.Sym
