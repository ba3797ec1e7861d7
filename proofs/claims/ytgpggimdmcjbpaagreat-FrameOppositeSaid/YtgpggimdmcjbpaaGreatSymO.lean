/- Small aids for the last step. -/
import Derived.Test.YtgpggimdmcjbpaaGreatSymN
import Derived.Laws.Rows
import Derived.ChangeSame
import Derived.JoinedOf
import Derived.JoinedAt
import Derived.JoinedStill
import Derived.RowKit
import Derived.ProofKit
import GoSem.Claim
import GoSem.ClaimJoined
import GoSem.ClaimMapViews
import Derived.JoinedTies
import Derived.KernelRfl
namespace Go.Sym
open Go Go.Eng
theorem okD_cons {d:Dyn} {r:List Dyn} : okD (d :: r)↔d.t.ok d.v∧okD r:=by simp[okD]
theorem trodAll_len {H:Type} {enc:TypeId×Value→H} {P:Program} {w:World} {base:Nat} {sp:Nat→Bool} {held:Bool} : ∀ {ts:List TypeId} {vs:List Value} {ds:List (DataW H)} {ps:List MemPlace},DataW.TrodAll enc P w base sp held ts vs ds ps→ds.length=ts.length
 |[],[],[],_,_=>rfl
 |_ :: _,_ :: _,_ :: _,_,h=>by
  obtain⟨p,q,_,h2,_⟩:=h
  simp[trodAll_len h2]
 |[],_ :: _,_,_,h=>h.elim
 |[],[],_ :: _,_,h=>h.elim
 |_ :: _,[],_,_,h=>h.elim
 |_ :: _,_ :: _,[],_,h=>h.elim
theorem rv_none (P:Program):RvOK P none:=fun _ h=>by cases h
theorem hval_of {P:Program} {W:World} {b:Nat} {args:Array Value} {params:Array TypeId} {l:List Par} (hp:params=(l.map (·.1)).toArray) (h:∀ (j:Nat) t v,params[j]?=some t→args[j]?=some v→Value.okWide P W .any b t v) :
  ∀ (j:Nat) (p:Par) v,l[j]?=some p→args[j]?=some v→Value.okWide P W .any b p.1 v:=fun j p v hj hv=>h j p.1 v (by rw[hp];simp[hj]) hv
end Go.Sym
