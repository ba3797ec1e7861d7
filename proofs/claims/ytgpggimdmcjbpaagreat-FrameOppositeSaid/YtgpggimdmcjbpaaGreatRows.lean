/-
  No cell of these rows narrows 'for every input' (looked for: loops, veiled, ifaces, maps, wideKeys, modest, calm, conditions, laid).
  DERIVED. THE GIVEN ROWS OF THIS SEAT. 3 by the template 'for every input the law returns true; each argument reads behind the call as it read before'; 0 by the template 'total and deterministic' (their statements: YtgpggimdmcjbpaaGreatTotals.lean).
  GIVEN WITH THE SEED: the statements are not yours to turn. If you find one false, say at which input.
  Laid BY PROGRAM, IN A SANDBOX (cutbox-rows.mjs): the forced cells as the released guide's own fill.sh prints them over the translation b8e3eb702eaf64e5… (all of the seat's roots in one cut). By AI agents, Wed Nov 11 2026. No macro, syntax, notation, axiom, sorry.
-/
import Derived.Test.YtgpggimdmcjbpaaGreatChecked
import GoSem.Claim
import GoSem.ClaimJoined
import GoSem.ClaimMapViews
import Derived.JoinedTies
import Derived.KernelRfl
namespace Go.Proofs.YtgpggimdmcjbpaaGreat
/- THE CELL 'sum', in the pinned program and in every row, IS THE sha256 OF THE DUMP (.gsa) THAT YtgpggimdmcjbpaaGreatProg.lean LOADS. Nothing in Lean hashes anything: it is a label: what it is worth is what the hold of that sum in a sandbox is worth. -/
noncomputable def Tryz.pinned : Pinned := { name := "ytgpggimdmcjbpaagreat", sum := "b8e3eb702eaf64e554bb2d15f43d293d6dc45a23e3d91031807b4ce4751e600d", checked := Tryz.checked }
namespace Rows
def none {H : Type} : Left H := { results := [], args := [] }

/-- 'wreckagelaw16.FramePushes': WHATEVER THE INPUT: true; the input reads as it did. -/
def framePushesSpec : ChangeSpec := { name := "framePushes", fn := fun _ => fun
  | [d1, d2, d3, d4, d5, d6] => { results := [.lit (.bool true)], args := [d1, d2, d3, d4, d5, d6] }
  | _ => none }
def framePushesRow : OpenClaim := { program := "ytgpggimdmcjbpaagreat", sum := "b8e3eb702eaf64e554bb2d15f43d293d6dc45a23e3d91031807b4ce4751e600d", func := "wreckage/wreckagelaw16.FramePushes", spec := "framePushes", unfollowed := true, recurses := true, apart := false }
def FramePushesSaid : Prop := framePushesRow.holds Tryz.pinned (OpenSpec.ofChange framePushesSpec)

/-- ITS FALSE NEIGHBOUR: 'it returns false'. Refute it at one input. -/
def framePushesWrong : ChangeSpec := { name := "framePushes", fn := fun _ => fun
  | [d1, d2, d3, d4, d5, d6] => { results := [.lit (.bool false)], args := [d1, d2, d3, d4, d5, d6] }
  | _ => none }
def FramePushesWrongFalsely : Prop := framePushesRow.holds Tryz.pinned (OpenSpec.ofChange framePushesWrong)

/-- 'wreckagelaw16.FrameOpposite': WHATEVER THE INPUT: true; the input reads as it did. -/
def frameOppositeSpec : ChangeSpec := { name := "frameOpposite", fn := fun _ => fun
  | [d1, d2, d3] => { results := [.lit (.bool true)], args := [d1, d2, d3] }
  | _ => none }
def frameOppositeRow : OpenClaim := { program := "ytgpggimdmcjbpaagreat", sum := "b8e3eb702eaf64e554bb2d15f43d293d6dc45a23e3d91031807b4ce4751e600d", func := "wreckage/wreckagelaw16.FrameOpposite", spec := "frameOpposite", unfollowed := true, recurses := true, apart := false }
def FrameOppositeSaid : Prop := frameOppositeRow.holds Tryz.pinned (OpenSpec.ofChange frameOppositeSpec)

/-- ITS FALSE NEIGHBOUR: 'it returns false'. Refute it at one input. -/
def frameOppositeWrong : ChangeSpec := { name := "frameOpposite", fn := fun _ => fun
  | [d1, d2, d3] => { results := [.lit (.bool false)], args := [d1, d2, d3] }
  | _ => none }
def FrameOppositeWrongFalsely : Prop := frameOppositeRow.holds Tryz.pinned (OpenSpec.ofChange frameOppositeWrong)

/-- 'wreckagelaw16.FramePopped': WHATEVER THE INPUT: true; the input reads as it did. -/
def framePoppedSpec : ChangeSpec := { name := "framePopped", fn := fun _ => fun
  | [d1, d2, d3, d4, d5, d6] => { results := [.lit (.bool true)], args := [d1, d2, d3, d4, d5, d6] }
  | _ => none }
def framePoppedRow : OpenClaim := { program := "ytgpggimdmcjbpaagreat", sum := "b8e3eb702eaf64e554bb2d15f43d293d6dc45a23e3d91031807b4ce4751e600d", func := "wreckage/wreckagelaw16.FramePopped", spec := "framePopped", unfollowed := true, recurses := true, apart := false }
def FramePoppedSaid : Prop := framePoppedRow.holds Tryz.pinned (OpenSpec.ofChange framePoppedSpec)

/-- ITS FALSE NEIGHBOUR: 'it returns false'. Refute it at one input. -/
def framePoppedWrong : ChangeSpec := { name := "framePopped", fn := fun _ => fun
  | [d1, d2, d3, d4, d5, d6] => { results := [.lit (.bool false)], args := [d1, d2, d3, d4, d5, d6] }
  | _ => none }
def FramePoppedWrongFalsely : Prop := framePoppedRow.holds Tryz.pinned (OpenSpec.ofChange framePoppedWrong)

/- THE SECOND FORM. 'bulk': how many values and letters a reading holds, each counted each time it is reached (what is shared counts as often as it is met; a slice's spare places count too). A statement '..UptoSaid' is the law's where the arguments, and the package variables that the reading takes, are together of bulk at most 1048576: NARROWER than '..Said'. Prove '..Said' where nothing that the law and all that it calls make is longer than what came in: it says more and counts as full. Else prove '..UptoSaid'. A law counts once. -/
mutual
def uptoBulk {H : Type} : DataW H → Nat
  | .lit (.string bytes) => bytes.length + 1
  | .lit _ => 1
  | .nil => 1
  | .ptr d => uptoBulk d + 1
  | .slice elems spare => uptoBulkAll elems + uptoBulkAll spare + 1
  | .agg parts => uptoBulkAll parts + 1
  | .iface _ d => uptoBulk d + 1
  | .map entries => uptoBulkEntries entries + 1
  | .held _ => 1
def uptoBulkAll {H : Type} : List (DataW H) → Nat
  | [] => 0
  | d :: r => uptoBulk d + uptoBulkAll r
def uptoBulkEntries {H : Type} : List (Lit × DataW H) → Nat
  | [] => 0
  | x :: r => uptoBulkEntry x + uptoBulkEntries r
def uptoBulkEntry {H : Type} : Lit × DataW H → Nat
  | (.string bytes, d) => bytes.length + uptoBulk d + 1
  | (_, d) => uptoBulk d + 1
 end
def uptoSmall : (H : Type) → List (DataW H) → Bool := fun _ ds => decide (uptoBulkAll ds ≤ 1048576)
def OpenSpec.upto (s : _root_.Go.ChangeSpec) : _root_.Go.OpenSpec := { _root_.Go.OpenSpec.ofChange s with cond := some uptoSmall }

/-- 'wreckagelaw16.FramePushes', WHERE WHAT IT READS IS OF BULK AT MOST 1048576: true; the input reads as it did. -/
def framePushesUptoRow : OpenClaim := { program := "ytgpggimdmcjbpaagreat", sum := "b8e3eb702eaf64e554bb2d15f43d293d6dc45a23e3d91031807b4ce4751e600d", func := "wreckage/wreckagelaw16.FramePushes", spec := "framePushes", unfollowed := true, recurses := true, apart := false, narrowed := true }
def FramePushesUptoSaid : Prop := framePushesUptoRow.holds Tryz.pinned (OpenSpec.upto framePushesSpec)

/-- 'wreckagelaw16.FrameOpposite', WHERE WHAT IT READS IS OF BULK AT MOST 1048576: true; the input reads as it did. -/
def frameOppositeUptoRow : OpenClaim := { program := "ytgpggimdmcjbpaagreat", sum := "b8e3eb702eaf64e554bb2d15f43d293d6dc45a23e3d91031807b4ce4751e600d", func := "wreckage/wreckagelaw16.FrameOpposite", spec := "frameOpposite", unfollowed := true, recurses := true, apart := false, narrowed := true }
def FrameOppositeUptoSaid : Prop := frameOppositeUptoRow.holds Tryz.pinned (OpenSpec.upto frameOppositeSpec)

/-- 'wreckagelaw16.FramePopped', WHERE WHAT IT READS IS OF BULK AT MOST 1048576: true; the input reads as it did. -/
def framePoppedUptoRow : OpenClaim := { program := "ytgpggimdmcjbpaagreat", sum := "b8e3eb702eaf64e554bb2d15f43d293d6dc45a23e3d91031807b4ce4751e600d", func := "wreckage/wreckagelaw16.FramePopped", spec := "framePopped", unfollowed := true, recurses := true, apart := false, narrowed := true }
def FramePoppedUptoSaid : Prop := framePoppedUptoRow.holds Tryz.pinned (OpenSpec.upto framePoppedSpec)

end Rows
end Go.Proofs.YtgpggimdmcjbpaaGreat
