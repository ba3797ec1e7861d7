/- A function of the program that takes nothing and answers a bool: what the machine of pure data yields, the program yields. -/
import Derived.Test.YtleacocdepjflaaGreatEngZA
namespace Go.Eng
open Go Go.RowKit
def cx0 (w:World):Cx:={ w,F:=fun _ _=>False,ρ:=fun _=>none,old:=fun b=>b<w.heap.size }
theorem cx0_mem (w:World) (hg:(∀ b,gblk b→b<w.heap.size)∧gok w) (m:List (Tr Ent)) (hm:∀ lv sl,memGet m lv sl=none):MemOK (cx0 w) m .lf where
 ents lv sl e he:=by rw[hm] at he;cases he
 tips v hv:=by simp at hv
 apart k k' v v' L L' a b:=by
  rcases a with⟨_,_,_,_,he,_⟩|⟨_,he⟩
  ·rw[hm] at he;cases he
  ·simp at he
 inF b o h:=h.elim
 lows:=⟨fun _ h=>h,hg.1,hg.2⟩
theorem memGet_lf (lv sl:Nat):memGet [.lf] lv sl=none:=by
 unfold memGet
 cases lv<;>simp
theorem bool_calls {P:Program} {lib:Nat→Option TypeId} {md:Nat→Mode} {Fs:Nat→Option AFn} {n f:Nat} (hm:P.follows .mixedOrders=true) (hlib:∀ f T,lib f=some T→IsLib P f T) (hFs:∀ f fn,Fs f=some fn→fnP P lib md f=some fn)
  (h:(runF Fs n f [] [.lf] .lf 0).map (·.1)=some (.d (.sc (.bool true)))) (w:World) (hg:(∀ b,gblk b→b<w.heap.size)∧gok w):Calls P f #[] w fun e w'=>e=.returned (.bool true)∧Below w.heap.size w w':=by
 obtain⟨⟨r,m,t,v⟩,hr,he⟩:=opt_map h
 obtain⟨_,hc⟩:=runF_ok hm hlib hFs n f [] [.lf] .lf 0 r m t v hr (cx0 w) #[] (cx0_mem w hg _ memGet_lf) (fun _ _=>rfl) trivial
 refine hc.mono ?_
 rintro e w' ⟨Y,u,rfl,rfl,hx,hv,_⟩
 dsimp only at he
 subst he
 cases hv
 exact⟨rfl,hx.below.toBelow⟩
def tabAt:List (Nat×AFn)→Nat→Option AFn
 |[],_=>none
 |(g,fn) :: r,f=>match Nat.beq g f with
  |true=>some fn
  |false=>tabAt r f
inductive TabOK (P:Program) (lib:Nat→Option TypeId) (md:Nat→Mode):List (Nat×AFn)→Prop where
 |nil:TabOK P lib md []
 |cons {g:Nat} {fn:AFn} {r:List (Nat×AFn)} : fnP P lib md g=some fn→TabOK P lib md r→TabOK P lib md ((g,fn) :: r)
end Go.Eng
