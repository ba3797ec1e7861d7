/- What a run may rely on of variables of Go's library: the table of white space, the powers of ten, the sentinel of a wrong syntax, and that a length is an int. -/
import Derived.Test.YtokjmkblnafppaaGreatDoorEngA
import Derived.Below
import Derived.Lib.LaidTab
import Derived.Lib.Fields
import Derived.Lib.ItoaNum
set_option linter.unusedVariables false
set_option linter.unusedSimpArgs false
namespace Go.bI
open Go
def vl (b:Nat):Prop:=b<6
structure GOk (w:World):Prop where
 sp:∀ c:Nat,c<256→w.cell? ⟨0,c,none⟩=some (.int .u8 (if Lib.isSp (UInt8.ofNat c) then 1 else 0))
 pow:∃ cs t e,w.heap[4]?=some (.cells cs t e)∧cs=(Lib.pow10Tab.map fun z=>Value.int .u64 z).toArray
 err:∃ te pe,w.cell? ⟨2,0,none⟩=some (.iface te pe)
 len:∃ m,w.cell? ⟨5,0,none⟩=some (.int .i64 m)
def JI (w:World):Prop:=GOk w
theorem BU {w w':World} (h:∀ b,vl b→w'.heap[b]?=w.heap[b]?) (hg:JI w):JI w' where
 sp c hc:=(World.cell?_of_block (w:=w) (h 0 (by unfold vl;omega))).trans (hg.sp c hc)
 pow:=by
  obtain⟨cs,t,e,h1,h2⟩:=hg.pow
  exact⟨cs,t,e,(h 4 (by unfold vl;omega)).trans h1,h2⟩
 err:=by
  obtain⟨te,pe,h1⟩:=hg.err
  exact⟨te,pe,(World.cell?_of_block (w:=w) (h 2 (by unfold vl;omega))).trans h1⟩
 len:=by
  obtain⟨m,h1⟩:=hg.len
  exact⟨m,(World.cell?_of_block (w:=w) (h 5 (by unfold vl;omega))).trans h1⟩
end Go.bI
