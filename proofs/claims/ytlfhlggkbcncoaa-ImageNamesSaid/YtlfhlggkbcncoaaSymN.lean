/- Environments of functions, put together. -/
import Derived.Test.YtlfhlggkbcncoaaSymM
namespace Go.Sym
open Go Go.Eng
def fuelW:Nat:=400
def SEnv.base (tab:Nat→Option AFn) (cuts ccut:Nat→Nat→Option Outs) (bcut:Nat→Nat→Option (Nat×Ty)) (unr:Nat→Nat→Bool) (ety:Nat→Nat→Option Ty):SEnv:=
 { fns:=tab,cal:=fun _=>none,loops:=fun _ _ _=>none,cuts,ccut,bcut,unr,ety }
def SEnv.addCal (E:SEnv) (f:Nat) (c:Callee):SEnv:=
 { E with cal:=fun g=>match Nat.beq g f with
  |true=>some c
  |false=>E.cal g }
def SEnv.addLoop (E:SEnv) (N ctx i:Nat) (T:Tmpl) (outs:Outs):SEnv:=
 { E with loops:=fun ctx' i' c=>match Nat.beq ctx' ctx&&Nat.beq i' i with
  |true=>some ⟨T,outs,loopF (loopStep E fuelW ctx i c T outs) N⟩
  |false=>E.loops ctx' i' c }
theorem base_ok (tab:Nat→Option AFn) (cuts ccut:Nat→Nat→Option Outs) (bcut:Nat→Nat→Option (Nat×Ty)) (unr:Nat→Nat→Bool) (ety:Nat→Nat→Option Ty):EnvOK tab (SEnv.base tab cuts ccut bcut unr ety):=
 ⟨rfl,fun _ _ h=>(by cases h),fun _ _ _ _ h=>(by cases h)⟩
theorem EnvOK.addCal {tab:Nat→Option AFn} {E:SEnv} (h:EnvOK tab E) {f:Nat} {c:Callee} (hc:CalOK tab f c):EnvOK tab (E.addCal f c):=by
 refine⟨h.fns,fun g d hd=>?_,h.loops⟩
 simp only[SEnv.addCal] at hd
 split at hd
 ·rename_i he
  rw[Nat.eq_of_beq_eq_true he]
  injection hd with hd;subst hd
  exact hc
 ·exact h.cal g d hd
theorem EnvOK.addLoop {tab:Nat→Option AFn} {E:SEnv} (h:EnvOK tab E) (N ctx i:Nat) (T:Tmpl) (outs:Outs):EnvOK tab (E.addLoop N ctx i T outs):=by
 refine⟨h.fns,h.cal,fun ctx' i' c L hL=>?_⟩
 simp only[SEnv.addLoop] at hL
 split at hL
 ·injection hL with hL; subst hL
  exact loop_ok h fuelW ctx i c T outs N
 ·exact h.loops ctx' i' c L hL
def tabAt:List (Nat×AFn)→Nat→Option AFn
 |[],_=>none
 |(g,fn) :: r,f=>match Nat.beq g f with
  |true=>some fn
  |false=>tabAt r f
inductive TabOK (P:Program) (lib:Nat→Option TypeId) (md:Nat→Eng.Mode):List (Nat×AFn)→Prop where
 |nil:TabOK P lib md []
 |cons {g:Nat} {fn:AFn} {r:List (Nat×AFn)} : fnP P lib md g=some fn→TabOK P lib md r→TabOK P lib md ((g,fn) :: r)
theorem tabAt_ok {P:Program} {lib:Nat→Option TypeId} {md:Nat→Eng.Mode} {l:List (Nat×AFn)} (h:TabOK P lib md l):∀ f fn,tabAt l f=some fn→fnP P lib md f=some fn:=by
 induction h with
 |nil=>intro f fn h;cases h
 | @cons g fn' r h1 _ ih =>
  intro f fn h
  simp only[tabAt] at h
  split at h
  ·rename_i hb
   have e:=Nat.eq_of_beq_eq_true hb
   subst e
   injection h with h;subst h
   exact h1
  ·exact ih f fn h
def fixF {α β : Type} (step:Nat→(α→Option β)→α→Option β):Nat→α→Option β
 |0,_=>none
 |n+1,x=>step n (fixF step n) x
def loopAt (t:Nat):AC→Nat→Option AC
 |.seq a b,i=>match Nat.blt t (i+cntC a) with
  |true=>loopAt t a i
  |false=>loopAt t b (i+cntC a)
 |.cond _ a b,i=>match Nat.blt t (i+1+cntC a) with
  |true=>loopAt t a (i+1)
  |false=>loopAt t b (i+1+cntC a)
 |.block _ c,i=>loopAt t c (i+1)
 |.loop c,i=>match Nat.beq t i with
  |true=>some c
  |false=>loopAt t c (i+1)
 |_,_=>none
def bodyAt (fn:AFn) (t:Nat):AC:=(loopAt t fn.body 0).getD .skip
abbrev wu8 (a:Int):Int:=IntKind.u8.wrap a
abbrev wu16 (a:Int):Int:=IntKind.u16.wrap a
abbrev wu32 (a:Int):Int:=IntKind.u32.wrap a
abbrev wu64 (a:Int):Int:=IntKind.u64.wrap a
abbrev wi8 (a:Int):Int:=IntKind.i8.wrap a
abbrev wi16 (a:Int):Int:=IntKind.i16.wrap a
abbrev wi32 (a:Int):Int:=IntKind.i32.wrap a
abbrev wi64 (a:Int):Int:=IntKind.i64.wrap a
def iand (k:IntKind) (a b:Int):Int:=k.wrap (BitVec.ofInt k.bits a &&& BitVec.ofInt k.bits b).toNat
def ior (k:IntKind) (a b:Int):Int:=k.wrap (BitVec.ofInt k.bits a ||| BitVec.ofInt k.bits b).toNat
def ixor (k:IntKind) (a b:Int):Int:=k.wrap (BitVec.ofInt k.bits a ^^^ BitVec.ofInt k.bits b).toNat
def iandnot (k:IntKind) (a b:Int):Int:=k.wrap (BitVec.ofInt k.bits a &&& ~~~(BitVec.ofInt k.bits b)).toNat
end Go.Sym
