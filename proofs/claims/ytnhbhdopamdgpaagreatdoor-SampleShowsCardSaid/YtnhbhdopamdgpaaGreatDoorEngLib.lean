/- Calls of Go's library by the kit's contracts: what they answer, as data. -/
import Derived.Test.YtnhbhdopamdgpaaGreatDoorEngMemo
import Derived.Shelf.Strings.Fields
import Derived.Shelf.Strings.Split
import Derived.Shelf.Strconv.Itoa3
import Derived.Lib.Atoi
namespace Go.Eng
open Go Go.Shelf Go.RowKit
set_option linter.unusedVariables false
noncomputable section
def oLib (f:Nat) (ans:List AV→Option AV):Go.Eng.Call:=fun g args mem tips nv=>match isNew mem tips nv&&Nat.beq g f with
 |true=>(ans args).map fun v=>(v,[.lf],.lf,0)
 |false=>none
def Cx.behind (X:Cx) (w':World):Cx:={ w:=w',F:=fun b o=>X.F b o∨(X.w.heap.size≤b∧b<w'.heap.size),ρ:=X.ρ,old:=X.old }
theorem below_stays {X:Cx} (hl:∀ b,X.old b→b<X.w.heap.size) {w':World} (h:Below X.w.heap.size X.w w'):Stays X.old X.w w':=⟨h.os,h.tape,h.output,h.size,fun b hb=>h.block b (hl b hb)⟩
theorem oLib_ok {P:Program} {f:Nat} {ans:List AV→Option AV} (hfn:∃ fn,P.funcs[f]?=some fn∧fn.body.isSome=true∧(fn.name == "runtime.NumGoroutine")=false)
  (h:∀ args v,ans args=some v→∀ (X:Cx) (vargs:Array Value),Low X→All2 (V1 X) args vargs.toList→Calls P f vargs X.w fun e w'=>∃ u,e=.returned u∧Below X.w.heap.size X.w w'∧VR (X.behind w') v u):CallOK P (oLib f ans):=by
 intro g args mem tips nv r mem' tips' nv' hr X vargs hmem hdom hargs
 unfold oLib at hr
 split at hr
 ·rename_i hq
  rw[Bool.and_eq_true] at hq
  have hg:=Nat.eq_of_beq_eq_true hq.2
  subst hg
  obtain⟨v,hv,he⟩:=opt_map hr
  simp only[Prod.mk.injEq] at he
  obtain⟨rfl,rfl,rfl,rfl⟩:=he
  have hn:nv=0:=by
   have:=hq.1
   unfold isNew at this
   split at this
   ·rfl
   ·cases this
  subst hn
  refine⟨hfn,(h args v hv X vargs hmem.lows hargs).mono ?_⟩
  rintro e w' ⟨u,rfl,hb,hvr⟩
  have hst:=below_stays hmem.low hb
  refine⟨X.behind w',u,rfl,rfl,⟨rfl,hst,fun b o hb=>.inl hb,fun b o hF=>hb.cell (hmem.inF b o hF),fun _ _ h=>h,fun b o hF=>?_⟩,hvr,none_mem (fun b o hF=>?_) ⟨fun b ho=>Nat.lt_of_lt_of_le (hmem.low b ho) hb.size,hmem.lows.gb,gok_stays (fun b hg=>hb.block b (hmem.low b (hmem.lows.gb b hg))) hmem.lows.gk⟩,Nat.le_refl _,fun u L h=>.inl h⟩
  ·rcases hF with hF | hF
   ·exact .inl hF
   ·exact .inr fun ho=>absurd (hmem.low b ho) (by omega)
  ·rcases hF with hF | hF
   ·exact Nat.lt_of_lt_of_le (hmem.inF b o hF) hb.size
   ·exact hF.2
 ·cases hr
theorem strs_ok {X:Cx} {t:TypeId} {l:List ByteArray} {ls:List (List UInt8)} (hls:l.map (·.data.toList)=ls) {n:Nat} (hn:n=l.length) :
  VR (X.behind (X.w.alloc (.cells (l.map Value.string).toArray t))) (.d (.sl (ls.map fun x=>[.sc (.string ⟨x.toArray⟩)]))) (.slice (some ⟨X.w.heap.size,0,none⟩) n n):=by
 subst hn
 have hlen:(ls.map fun x=>([.sc (.string ⟨x.toArray⟩)]:List D)).length=l.length:=by rw[List.length_map,←hls,List.length_map]
 refine .of_VC (show DR _ _ _ _ from DR.of_lies (b:=X.w.heap.size) (o:=0) (sz:=1) ⟨?_,fun i e j x h1 h2=>?_⟩ hlen (Nat.le_refl _) fun _=>rfl)
 ·intro e he
  obtain⟨y,_,rfl⟩:=List.mem_map.1 he
  rfl
 ·rw [List.getElem?_map] at h1
  cases hi:ls[i]? with
  |none=>rw[hi] at h1;cases h1
  | some y =>
   rw[hi] at h1
   injection h1 with h1;subst h1
   cases j with
   |succ j=>simp at h2
   | zero =>
    simp only[List.getElem?_cons_zero,Option.some.injEq] at h2
    subst h2
    subst hls
    rw[List.getElem?_map] at hi
    cases hb:l[i]? with
    |none=>rw[hb] at hi;cases hi
    | some s =>
     rw[hb] at hi
     injection hi with hi;subst hi
     refine⟨.inr ⟨Nat.le_refl _,by show _<(X.w.heap.push _).size;rw[Array.size_push];omega⟩,.string s,?_,?_⟩
     ·have : (X.w.alloc (.cells (l.map Value.string).toArray t)).cell? ⟨X.w.heap.size, i, none⟩ = (l.map Value.string).toArray[i]? := World.cell?_alloc_new ..
      simp only[Nat.zero_add,Nat.mul_one,Nat.add_zero,Cx.behind]
      rw[this]
      simp[hb]
     ·have : (⟨s.data.toList.toArray⟩ : ByteArray) = s := by cases s; simp
      rw[this]
      exact .sc _ rfl
theorem str_arg {X:Cx} {s:ByteArray} {v:Value} (h:V1 X (.d (.sc (.string s))) v):v=.string s:=by
 have h:DR X.w X.F (.sc (.string s)) v:=h
 cases h with
 |sc _ _=>rfl
theorem int_arg {X:Cx} {k:IntKind} {n:Int} {v:Value} (h:V1 X (.d (.sc (.int k n))) v):v=.int k n:=by
 have h:DR X.w X.F (.sc (.int k n)) v:=h
 cases h with
 |sc _ _=>rfl
theorem args1 {X:Cx} {a:AV} {vargs:Array Value} (h:All2 (V1 X) [a] vargs.toList):∃ v,vargs = #[v]∧V1 X a v:=by
 match hv:vargs.toList,h with
 |[v],⟨h1,_⟩=>exact⟨v,by rw[←Array.toList_inj,hv],h1⟩
theorem args2 {X:Cx} {a b:AV} {vargs:Array Value} (h:All2 (V1 X) [a,b] vargs.toList):∃ u v,vargs = #[u,v]∧V1 X a u∧V1 X b v:=by
 match hv:vargs.toList,h with
 |[u,v],⟨h1,h2,_⟩=>exact⟨u,v,by rw[←Array.toList_inj,hv],h1,h2⟩
def small (l:List UInt8):Bool:=l.all fun b=>Nat.blt b.toNat 128
def ansF:List AV→Option AV
 |[.d (.sc (.string s))]=>match small s.data.toList&&Nat.blt s.data.toList.length 1000000 with
  |true=>some (.d (.sl ((Lib.fields s.data.toList).map fun x=>[.sc (.string ⟨x.toArray⟩)])))
  |false=>none
 |_=>none
theorem size_len (s:ByteArray):s.size=s.data.toList.length:=Lib.size_eq s
theorem fields_ok {P:Program} {ρ : Ren} (L:Go.Proofs.Lays.n157 P ρ) (hfn:∃ fn,P.funcs[ρ.f 157]?=some fn∧fn.body.isSome=true∧(fn.name == "runtime.NumGoroutine")=false)
  (hi9:(P.info? (ρ.t 9)).map (fun i=>(i.zero,i.size,i.bytes))=some (some (.string ByteArray.empty),1,16))
  (hT:∀ w,gok w→∀ c:Nat,c<256→w.cell? ⟨ρ.g 0,c,none⟩=some (.int .u8 (if Lib.isSp (UInt8.ofNat c) then 1 else 0))):CallOK P (oLib (ρ.f 157) ansF):=by
 refine oLib_ok hfn fun args v hans X vargs hlow hargs=>?_
 unfold ansF at hans
 split at hans
 ·rename_i s
  split at hans
  ·rename_i hq
   injection hans with hans;subst hans
   obtain⟨u,rfl,hu⟩:=args1 hargs
   have:=str_arg hu
   subst this
   rw[Bool.and_eq_true] at hq
   have hsz:s.size<1000000:=by rw[size_len];simpa[Nat.blt_eq] using hq.2
   refine (Go.Proofs.Any.strings_Fields_core L hi9 s X.w (by omega) (fun j b hj=>?_) (hT X.w hlow.gk)).mono ?_
   ·have := List.all_eq_true.1 hq.1 b (List.mem_of_getElem? hj)
    simpa[Nat.blt_eq] using this
   ·rintro e w' ⟨rfl, rfl⟩
    have h1:((Lib.fields s.data.toList).map fun l=>Value.string ⟨l.toArray⟩)=((Lib.fields s.data.toList).map fun l=>(⟨l.toArray⟩:ByteArray)).map Value.string:=by rw[List.map_map];rfl
    rw[h1]
    refine⟨_,rfl,(Below.refl _ _).alloc (Nat.le_refl _) _,?_⟩
    exact strs_ok (by rw[List.map_map];exact (List.map_congr_left fun x _=>by simp).trans (List.map_id _)) (by simp)
  ·cases hans
 ·cases hans
def ansS:List AV→Option AV
 |[.d (.sc (.string s)),.d (.sc (.string p))]=>match Nat.blt s.data.toList.length 1000000&&Nat.blt 0 p.data.toList.length with
  |true=>some (.d (.sl ((Lib.splitK p.data.toList 0 (Lib.count s.data.toList p.data.toList) s.data.toList).map fun x=>[.sc (.string ⟨x.toArray⟩)])))
  |false=>none
 |_=>none
theorem split_ok {P:Program} {ρ : Ren} (L:Go.Proofs.Lays.n146 P ρ) (hfn:∃ fn,P.funcs[ρ.f 146]?=some fn∧fn.body.isSome=true∧(fn.name == "runtime.NumGoroutine")=false)
  (hi9:(P.info? (ρ.t 9)).map (fun i=>(i.zero,i.size,i.bytes))=some (some (.string ByteArray.empty),1,16))
  (hm:∀ w,gok w→∃ m,w.cell? ⟨ρ.g 1,0,none⟩=some (.int .i64 m)):CallOK P (oLib (ρ.f 146) ansS):=by
 refine oLib_ok hfn fun args v hans X vargs hlow hargs=>?_
 unfold ansS at hans
 split at hans
 ·rename_i s p
  split at hans
  ·rename_i hq
   injection hans with hans;subst hans
   obtain⟨u,u2,rfl,hu,hu2⟩:=args2 hargs
   have:=str_arg hu
   subst this
   have:=str_arg hu2
   subst this
   rw[Bool.and_eq_true] at hq
   have hsz:s.size<1000000:=by rw[size_len];simpa[Nat.blt_eq] using hq.1
   have hp:1≤p.size:=by rw[size_len];have:=hq.2;rw[Nat.blt_eq] at this;omega
   obtain⟨m,hm⟩:=hm X.w hlow.gk
   refine (Go.Proofs.Any.strings_Split L hi9 s p m X.w (by omega) hm hp).mono ?_
   rintro e w' ⟨rfl,rfl⟩
   refine⟨_,rfl,(Below.refl _ _).alloc (Nat.le_refl _) _,?_⟩
   exact strs_ok (by rw[Lib.splitB_data]) (by rw[Lib.splitB_all p hp 0 _ s rfl])
  ·cases hans
 ·cases hans
def ansA:List AV→Option AV
 | [.d (.sc (.string s))] => match Nat.ble s.data.toList.length 18 with
  |true=>match Lib.atoi s.data.toList with
   |some n=>some (.tup [.d (.sc (.int .i64 n)),.d (.sc .nilIface)])
   |none=>some (.tup [.d (.sc (.int .i64 0)),.d .er])
  |false=>none
 |_=>none
def dig (n:Nat):List UInt8:=match Nat.blt n 10 with
 |true=>[UInt8.ofNat (48+n)]
 |false=>[UInt8.ofNat (48+n / 10),UInt8.ofNat (48+n % 10)]
theorem dig_eq {n:Nat} (h:n<100):Lib.decDigits n=dig n:=by
 unfold dig
 cases hb:Nat.blt n 10 with
 |true=>
  have:n<10:=by simpa[Nat.blt_eq] using hb
  rw[Lib.decDigits,dif_pos this]
 |false=>
  have h1:¬n<10:=by intro q;rw[(by rw[Nat.blt_eq];exact q:Nat.blt n 10=true)] at hb;cases hb
  rw[Lib.decDigits,dif_neg h1,Lib.decDigits,dif_pos (by omega)];rfl
def ansI:List AV→Option AV
 | [.d (.sc (.int .i64 n))] => match n with
  |.ofNat k=>match Nat.blt k 100 with
   |true=>some (.d (.sc (.string ⟨(dig k).toArray⟩)))
   |false=>none
  |.negSucc k=>match Nat.blt k 99 with
   |true=>some (.d (.sc (.string ⟨(45 :: dig (k+1)).toArray⟩)))
   |false=>none
 |_=>none
theorem itoa_ok {P:Program} {ρ : Ren} (L:Go.Proofs.LaysM.n171 P ρ) (hfn:∃ fn,P.funcs[ρ.f 171]?=some fn∧fn.body.isSome=true∧(fn.name == "runtime.NumGoroutine")=false)
  (hv:∀ w,gok w→Lib.TabIs P w "internal/strconv.uint64pow10" .u64 Lib.pow10Tab):CallOK P (oLib (ρ.f 171) ansI):=by
 refine oLib_ok hfn fun args v hans X vargs hlow hargs=>?_
 unfold ansI at hans
 split at hans
 ·rename_i n
  obtain⟨u,rfl,hu⟩:=args1 hargs
  have:=int_arg hu
  subst this
  have fin:∀ {l:List UInt8},-9223372036854775808≤n→n≤9223372036854775807→Lib.itoa n=l→v=.d (.sc (.string ⟨l.toArray⟩))→Calls P (ρ.f 171) #[.int .i64 n] X.w fun e w'=>∃ u,e=.returned u∧Below X.w.heap.size X.w w'∧VR (X.behind w') v u:=by
   rintro l h0 h1 hl rfl
   refine (Go.Proofs.Any.strconv_Itoa L n h0 h1 X.w (hv X.w hlow.gk)).mono ?_
   rintro e w' ⟨rfl,k,os,rfl⟩
   rw[hl]
   refine⟨_,rfl,⟨rfl,rfl,rfl,?_,fun b hb=>?_⟩,.of_VC (DR.sc _ rfl)⟩
   ·show _ ≤ (X.w.heap ++ os).size
    rw[Array.size_append];omega
   ·show (X.w.heap ++ os)[b]? = _
    rw[Array.getElem?_append_left hb]
  split at hans
  ·rename_i k
   split at hans
   ·rename_i hk
    have hk:k<100:=by simpa[Nat.blt_eq] using hk
    injection hans with hans
    refine fin (by simp only[Int.ofNat_eq_natCast];omega) (by simp only[Int.ofNat_eq_natCast];omega) ?_ hans.symm
    unfold Lib.itoa
    rw[if_neg (by simp only[Int.ofNat_eq_natCast];omega)]
    exact dig_eq hk
   ·cases hans
  ·rename_i k
   split at hans
   ·rename_i hk
    have hk:k<99:=by simpa[Nat.blt_eq] using hk
    injection hans with hans
    refine fin (by omega) (by omega) ?_ hans.symm
    unfold Lib.itoa
    rw[if_pos (by omega)]
    rw[show (Int.negSucc k).natAbs=k+1 from rfl,dig_eq (by omega)]
   ·cases hans
 ·cases hans
end
end Go.Eng
