/- A part of the proof: EngLb, EngLbA. -/
import Derived.Test.YtokjmkblnafppaaGreatDoorEngTb
import Derived.Shelf.Strings.Fields
import Derived.Shelf.Strings.Split
import Derived.Shelf.Strconv.Itoa3
import Derived.Lib.Atoi
import Derived.Shelf.Strconv.Atoi
import Derived.Shelf.Strconv.AtoiErr
set_option linter.unusedSimpArgs false
namespace Go.bI
open Go Go.Shelf Go.RowKit
set_option linter.unusedVariables false
noncomputable section
def CP (mem:List (Tr bH)) (aE:Tr Unit) (nv:Nat):Bool:=match mem,aE,nv with
 |[.lf],.lf,0=>true
 |_,_,_=>false
theorem Oy {Y:Cx} (hF:∀ b o,Y.F b o→b<Y.w.heap.size) (hl:US Y):aB Y [.lf] .lf:=by
 refine⟨fun lv sl e he=>?_,fun v hv=>by simp at hv,fun k k' v v' L L' a _ _ _ _ _=>?_,hF,hl⟩
 ·exfalso
  unfold aN at he
  cases lv with
  |zero=>simp at he
  |succ lv=>simp at he
 ·exfalso
  rcases a with⟨lv,_,_,_,he,_⟩|⟨_,he⟩
  ·unfold aN at he
   cases lv with
   |zero=>simp at he
   |succ lv=>simp at he
  ·simp at he
def kI (a b:Go.bI.Call):Go.bI.Call:=fun f args mem aE nv=>match a f args mem aE nv with
 |some r=>some r
 |none=>b f args mem aE nv
theorem D9 {P:Program} {a b:Go.bI.Call} (ha:cF P a) (hb:cF P b):cF P (kI a b):=by
 intro f args mem aE nv r mem' pE JR h
 unfold kI at h
 split at h
 ·rename_i he
  injection h with h;subst h
  exact ha f args mem aE nv _ mem' pE JR he
 ·exact hb f args mem aE nv r mem' pE JR h
def pL (f:Nat) (ans:List AV→Option AV):Go.bI.Call:=fun g args mem aE nv=>match CP mem aE nv&&Nat.beq g f with
 |true=>(ans args).map fun v=>(v,[.lf],.lf,0)
 |false=>none
def Cx.behind (X:Cx) (w':World):Cx:={ w:=w',F:=fun b o=>X.F b o∨(X.w.heap.size≤b∧b<w'.heap.size),ρ:=X.ρ,old:=X.old }
theorem Gu {X:Cx} (hl:∀ b,X.old b→b<X.w.heap.size) {w':World} (h:Below X.w.heap.size X.w w'):dO X.old X.w w':=⟨h.os,h.tape,h.output,h.size,fun b hb=>h.block b (hl b hb)⟩
theorem yz {P:Program} {f:Nat} {ans:List AV→Option AV} (hfn:∃ fn,P.funcs[f]?=some fn∧fn.body.isSome=true∧(fn.name == "runtime.NumGoroutine")=false)
  (h:∀ args v,ans args=some v→∀ (X:Cx) (bQ:Array Value),US X→az (V1 X) args bQ.toList→Calls P f bQ X.w fun e w'=>∃ u,e=.returned u∧Below X.w.heap.size X.w w'∧VR (X.behind w') v u):cF P (pL f ans):=by
 intro g args mem aE nv r mem' pE JR hr X bQ hmem hdom hargs
 unfold pL at hr
 split at hr
 ·rename_i hq
  rw[Bool.and_eq_true] at hq
  have hg:=Nat.eq_of_beq_eq_true hq.2
  subst hg
  obtain⟨v,hv,he⟩:=aM hr
  simp only[Prod.mk.injEq] at he
  obtain⟨rfl,rfl,rfl,rfl⟩:=he
  have hn:nv=0:=by
   have:=hq.1
   unfold CP at this
   split at this
   ·rfl
   ·cases this
  subst hn
  refine⟨hfn,(h args v hv X bQ hmem.oq hargs).mono ?_⟩
  rintro e w' ⟨u,rfl,hb,hvr⟩
  have hst:=Gu hmem.low hb
  refine⟨X.behind w',u,rfl,rfl,⟨rfl,hst,fun b o hb=>.inl hb,fun b o hF=>hb.cell (hmem.mI b o hF),fun _ _ h=>h,fun b o hF=>?_⟩,hvr,Oy (fun b o hF=>?_) ⟨fun b ho=>Nat.lt_of_lt_of_le (hmem.low b ho) hb.size,hmem.oq.gb,BU (fun b hg=>hb.block b (hmem.low b (hmem.oq.gb b hg))) hmem.oq.gk⟩,Nat.le_refl _,fun u L h=>.inl h⟩
  ·rcases hF with hF | hF
   ·exact .inl hF
   ·exact .inr fun ho=>absurd (hmem.low b ho) (by omega)
  ·rcases hF with hF | hF
   ·exact Nat.lt_of_lt_of_le (hmem.mI b o hF) hb.size
   ·exact hF.2
 ·cases hr
theorem Ks {X:Cx} {t:TypeId} {l:List ByteArray} {ls:List (List UInt8)} (hls:l.map (·.data.toList)=ls) {n:Nat} (hn:n=l.length) :
  VR (X.behind (X.w.alloc (.cells (l.map Value.string).toArray t))) (.d (.sl (ls.map fun x=>[.sc (.string ⟨x.toArray⟩)]))) (.slice (some ⟨X.w.heap.size,0,none⟩) n n):=by
 subst hn
 have hlen:(ls.map fun x=>([.sc (.string ⟨x.toArray⟩)]:List D)).length=l.length:=by rw[List.length_map,←hls,List.length_map]
 refine .fQ (show DR _ _ _ _ from DR.fL (b:=X.w.heap.size) (o:=0) (sz:=1) ⟨?_,fun i e j x h1 h2=>?_⟩ hlen (Nat.le_refl _) fun _=>rfl)
 ·intro e he
  obtain⟨y,_,rfl⟩:=List.mem_map.1 he
  rfl
 ·rw [List.getElem?_map] at h1
  cases hi:ls[i]? with
  |none=>rw[hi] at h1;cases h1
  | some y =>
   rw[hi] at h1
   injection h1 with h1;subst h1
   cases j with
   |succ j=>simp at h2
   | zero =>
    simp only[List.getElem?_cons_zero,Option.some.injEq] at h2
    subst h2
    subst hls
    rw[List.getElem?_map] at hi
    cases hb:l[i]? with
    |none=>rw[hb] at hi;cases hi
    | some s =>
     rw[hb] at hi
     injection hi with hi;subst hi
     refine⟨.inr ⟨Nat.le_refl _,by show _<(X.w.heap.push _).size;rw[Array.size_push];omega⟩,.string s,?_,?_⟩
     ·have : (X.w.alloc (.cells (l.map Value.string).toArray t)).cell? ⟨X.w.heap.size, i, none⟩ = (l.map Value.string).toArray[i]? := World.cell?_alloc_new ..
      simp only[Nat.zero_add,Nat.mul_one,Nat.add_zero,Cx.behind]
      rw[this]
      simp[hb]
     ·have : (⟨s.data.toList.toArray⟩ : ByteArray) = s := by cases s; simp
      rw[this]
      exact .sc _ rfl
theorem yA {X:Cx} {s:ByteArray} {v:Value} (h:V1 X (.d (.sc (.string s))) v):v=.string s:=by
 have h:DR X.w X.F (.sc (.string s)) v:=h
 cases h with
 |sc _ _=>rfl
theorem Sc {X:Cx} {k:IntKind} {n:Int} {v:Value} (h:V1 X (.d (.sc (.int k n))) v):v=.int k n:=by
 have h:DR X.w X.F (.sc (.int k n)) v:=h
 cases h with
 |sc _ _=>rfl
theorem args1 {X:Cx} {a:AV} {bQ:Array Value} (h:az (V1 X) [a] bQ.toList):∃ v,bQ = #[v]∧V1 X a v:=by
 match hv:bQ.toList,h with
 |[v],⟨h1,_⟩=>exact⟨v,by rw[←Array.toList_inj,hv],h1⟩
theorem args2 {X:Cx} {a b:AV} {bQ:Array Value} (h:az (V1 X) [a,b] bQ.toList):∃ u v,bQ = #[u,v]∧V1 X a u∧V1 X b v:=by
 match hv:bQ.toList,h with
 |[u,v],⟨h1,h2,_⟩=>exact⟨u,v,by rw[←Array.toList_inj,hv],h1,h2⟩
def small (l:List UInt8):Bool:=l.all fun b=>Nat.blt b.toNat 128
def IQ:List AV→Option AV
 |[.d (.sc (.string s))]=>match small s.data.toList&&Nat.blt s.data.toList.length 1000000 with
  |true=>some (.d (.sl ((Lib.fields s.data.toList).map fun x=>[.sc (.string ⟨x.toArray⟩)])))
  |false=>none
 |_=>none
theorem uT (s:ByteArray):s.size=s.data.toList.length:=Lib.size_eq s
theorem L9 {P:Program} {ρ : Ren} (L:Go.Proofs.Lays.n157 P ρ) (hfn:∃ fn,P.funcs[ρ.f 157]?=some fn∧fn.body.isSome=true∧(fn.name == "runtime.NumGoroutine")=false)
  (hi9:(P.info? (ρ.t 9)).map (fun i=>(i.zero,i.size,i.bytes))=some (some (.string ByteArray.empty),1,16))
  (hT:∀ w,JI w→∀ c:Nat,c<256→w.cell? ⟨ρ.g 0,c,none⟩=some (.int .u8 (if Lib.isSp (UInt8.ofNat c) then 1 else 0))):cF P (pL (ρ.f 157) IQ):=by
 refine yz hfn fun args v fh X bQ mb hargs=>?_
 unfold IQ at fh
 split at fh
 ·rename_i s
  split at fh
  ·rename_i hq
   injection fh with fh;subst fh
   obtain⟨u,rfl,hu⟩:=args1 hargs
   have:=yA hu
   subst this
   rw[Bool.and_eq_true] at hq
   have hsz:s.size<1000000:=by rw[uT];simpa[Nat.blt_eq] using hq.2
   refine (Go.Proofs.Any.strings_Fields_core L hi9 s X.w (by omega) (fun j b hj=>?_) (hT X.w mb.gk)).mono ?_
   ·have := List.all_eq_true.1 hq.1 b (List.mem_of_getElem? hj)
    simpa[Nat.blt_eq] using this
   ·rintro e w' ⟨rfl, rfl⟩
    have h1:((Lib.fields s.data.toList).map fun l=>Value.string ⟨l.toArray⟩)=((Lib.fields s.data.toList).map fun l=>(⟨l.toArray⟩:ByteArray)).map Value.string:=by rw[List.map_map];rfl
    rw[h1]
    refine⟨_,rfl,(Below.refl _ _).alloc (Nat.le_refl _) _,?_⟩
    exact Ks (by rw[List.map_map];exact (List.map_congr_left fun x _=>by simp).trans (List.map_id _)) (by simp)
  ·cases fh
 ·cases fh
def IS:List AV→Option AV
 |[.d (.sc (.string s)),.d (.sc (.string p))]=>match Nat.blt s.data.toList.length 1000000&&Nat.blt 0 p.data.toList.length with
  |true=>some (.d (.sl ((Lib.splitK p.data.toList 0 (Lib.count s.data.toList p.data.toList) s.data.toList).map fun x=>[.sc (.string ⟨x.toArray⟩)])))
  |false=>none
 |_=>none
theorem Oz {P:Program} {ρ : Ren} (L:Go.Proofs.Lays.n146 P ρ) (hfn:∃ fn,P.funcs[ρ.f 146]?=some fn∧fn.body.isSome=true∧(fn.name == "runtime.NumGoroutine")=false)
  (hi9:(P.info? (ρ.t 9)).map (fun i=>(i.zero,i.size,i.bytes))=some (some (.string ByteArray.empty),1,16))
  (hm:∀ w,JI w→∃ m,w.cell? ⟨ρ.g 1,0,none⟩=some (.int .i64 m)):cF P (pL (ρ.f 146) IS):=by
 refine yz hfn fun args v fh X bQ mb hargs=>?_
 unfold IS at fh
 split at fh
 ·rename_i s p
  split at fh
  ·rename_i hq
   injection fh with fh;subst fh
   obtain⟨u,u2,rfl,hu,hu2⟩:=args2 hargs
   have:=yA hu
   subst this
   have:=yA hu2
   subst this
   rw[Bool.and_eq_true] at hq
   have hsz:s.size<1000000:=by rw[uT];simpa[Nat.blt_eq] using hq.1
   have hp:1≤p.size:=by rw[uT];have:=hq.2;rw[Nat.blt_eq] at this;omega
   obtain⟨m,hm⟩:=hm X.w mb.gk
   refine (Go.Proofs.Any.strings_Split L hi9 s p m X.w (by omega) hm hp).mono ?_
   rintro e w' ⟨rfl,rfl⟩
   refine⟨_,rfl,(Below.refl _ _).alloc (Nat.le_refl _) _,?_⟩
   exact Ks (by rw[Lib.splitB_data]) (by rw[Lib.splitB_all p hp 0 _ s rfl])
  ·cases fh
 ·cases fh
def Gv:List AV→Option AV
 | [.d (.sc (.string s))] => match Nat.ble s.data.toList.length 18 with
  |true=>match Lib.atoi s.data.toList with
   |some n=>some (.gZ [.d (.sc (.int .i64 n)),.d (.sc .nilIface)])
   |none=>some (.gZ [.d (.sc (.int .i64 0)),.d .er])
  |false=>none
 |_=>none
def QH (n:Nat):List UInt8:=match Nat.blt n 10 with
 |true=>[UInt8.ofNat (48+n)]
 |false=>[UInt8.ofNat (48+n / 10),UInt8.ofNat (48+n % 10)]
theorem OA {n:Nat} (h:n<100):Lib.decDigits n=QH n:=by
 unfold QH
 cases hb:Nat.blt n 10 with
 |true=>
  have:n<10:=by simpa[Nat.blt_eq] using hb
  rw[Lib.decDigits,dif_pos this]
 |false=>
  have h1:¬n<10:=by intro q;rw[(by rw[Nat.blt_eq];exact q:Nat.blt n 10=true)] at hb;cases hb
  rw[Lib.decDigits,dif_neg h1,Lib.decDigits,dif_pos (by omega)];rfl
def Gw:List AV→Option AV
 | [.d (.sc (.int .i64 n))] => match n with
  |.ofNat k=>match Nat.blt k 100 with
   |true=>some (.d (.sc (.string ⟨(QH k).toArray⟩)))
   |false=>none
  |.negSucc k=>match Nat.blt k 99 with
   |true=>some (.d (.sc (.string ⟨(45 :: QH (k+1)).toArray⟩)))
   |false=>none
 |_=>none
theorem Sd {P:Program} {ρ : Ren} (L:Go.Proofs.LaysM.n171 P ρ) (hfn:∃ fn,P.funcs[ρ.f 171]?=some fn∧fn.body.isSome=true∧(fn.name == "runtime.NumGoroutine")=false)
  (hv:∀ w,JI w→Lib.TabIs P w "internal/strconv.uint64pow10" .u64 Lib.pow10Tab):cF P (pL (ρ.f 171) Gw):=by
 refine yz hfn fun args v fh X bQ mb hargs=>?_
 unfold Gw at fh
 split at fh
 ·rename_i n
  obtain⟨u,rfl,hu⟩:=args1 hargs
  have:=Sc hu
  subst this
  have fin:∀ {l:List UInt8},-9223372036854775808≤n→n≤9223372036854775807→Lib.itoa n=l→v=.d (.sc (.string ⟨l.toArray⟩))→Calls P (ρ.f 171) #[.int .i64 n] X.w fun e w'=>∃ u,e=.returned u∧Below X.w.heap.size X.w w'∧VR (X.behind w') v u:=by
   rintro l h0 h1 hl rfl
   refine (Go.Proofs.Any.strconv_Itoa L n h0 h1 X.w (hv X.w mb.gk)).mono ?_
   rintro e w' ⟨rfl,k,os,rfl⟩
   rw[hl]
   refine⟨_,rfl,⟨rfl,rfl,rfl,?_,fun b hb=>?_⟩,.fQ (DR.sc _ rfl)⟩
   ·show _ ≤ (X.w.heap ++ os).size
    rw[Array.size_append];omega
   ·show (X.w.heap ++ os)[b]? = _
    rw[Array.getElem?_append_left hb]
  split at fh
  ·rename_i k
   split at fh
   ·rename_i hk
    have hk:k<100:=by simpa[Nat.blt_eq] using hk
    injection fh with fh
    refine fin (by simp only[Int.ofNat_eq_natCast];omega) (by simp only[Int.ofNat_eq_natCast];omega) ?_ fh.symm
    unfold Lib.itoa
    rw[if_neg (by simp only[Int.ofNat_eq_natCast];omega)]
    exact OA hk
   ·cases fh
  ·rename_i k
   split at fh
   ·rename_i hk
    have hk:k<99:=by simpa[Nat.blt_eq] using hk
    injection fh with fh
    refine fin (by omega) (by omega) ?_ fh.symm
    unfold Lib.itoa
    rw[if_pos (by omega)]
    rw[show (Int.negSucc k).natAbs=k+1 from rfl,OA (by omega)]
   ·cases fh
 ·cases fh
end
end Go.bI
namespace Go.bI
open Go Go.Shelf Go.RowKit
set_option linter.unusedVariables false
noncomputable section
theorem Se {P:Program} {ρ : Ren} (L:Go.Proofs.Lays.n172 P ρ) (L2:Go.Proofs.LaysC.n172 P ρ) (hfn:∃ fn,P.funcs[ρ.f 172]?=some fn∧fn.body.isSome=true∧(fn.name == "runtime.NumGoroutine")=false)
  (hv:∀ w,JI w→∃ te pe,w.cell? ⟨ρ.g 15,0,none⟩=some (.iface te pe)):cF P (pL (ρ.f 172) Gv):=by
 refine yz hfn fun args v fh X bQ mb hargs=>?_
 unfold Gv at fh
 split at fh
 ·rename_i s
  split at fh
  ·rename_i hq
   obtain⟨u,rfl,hu⟩:=args1 hargs
   have:=yA hu
   subst this
   have hsz:s.size≤18:=by rw[uT];exact Nat.le_of_ble_eq_true hq
   split at fh
   ·rename_i n hn
    injection fh with fh;subst fh
    refine (Go.Proofs.Any.strconv_Atoi L s n hsz hn X.w).mono ?_
    rintro e w' ⟨rfl,t,rfl⟩
    exact⟨_,rfl,Lib.bytesWorld_below _ _ _,_,rfl,.fQ (DR.sc _ rfl),.fQ (DR.sc _ rfl),trivial⟩
   ·rename_i hn
    injection fh with fh;subst fh
    obtain⟨te,pe,hev⟩:=hv X.w mb.gk
    refine (Go.Proofs.Any.strconv_Atoi_err L2 s hsz hn _ X.w hev (.inr ⟨te,pe,rfl⟩)).mono ?_
    rintro e w' ⟨N,rfl,_,_,hb⟩
    exact⟨_,rfl,hb,_,rfl,.fQ (DR.sc _ rfl),.fQ (DR.er _ ⟨_,_,rfl⟩),trivial⟩
  ·cases fh
 ·cases fh
end
end Go.bI
