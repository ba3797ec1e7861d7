/- FlowWalk returns true, whatever it is given: no condition. -/
import Derived.Test.YtedmahccogjemaaLaw07wa
import Derived.Test.YtedmahccogjemaaSymO
namespace Go.Proofs.Ytedmahccogjemaa
open Go Go.Eng Go.Sym Go.ChangeShapes Go.WideShapes Go.ChangeAt Go.RowKit

def pars9 : List Par := [(22, false, (.sl TInstr)), (3, false, (.int .i64)), (3, false, (.int .i64)), (24, false, (.sl (.int .i64))), (24, false, (.sl (.int .i64)))]
theorem own9 : ownKnob Try.prog.godebug = none := by kernel_rfl
theorem laid9 : laidOutB Try.prog = true := by kernel_rfl
theorem mix9 : Try.prog.follows .mixedOrders = true := by kernel_rfl
theorem pars9_ok : ∀ p ∈ pars9, parOK Try.prog none 40 p := by
  intro p hp
  simp only [pars9, List.mem_cons, List.not_mem_nil, or_false] at hp
  rcases hp with rfl | rfl | rfl | rfl | rfl <;> exact ⟨by kernel_rfl, by kernel_rfl⟩
theorem read9 : ([22, 3, 3, 24, 24].all fun t => Try.prog.readableRec t && decide (t < Try.prog.types.size)) = true := by kernel_rfl

set_option maxRecDepth 100000 in
theorem lifted9 (os : Os) (started : os.Started) (H : Type) (enc : TypeId × Value → H) :
    ReturnsInHanded {} Try.checked os 9 .any (Rows.flowWalkSpec.pre6 enc Try.prog Try.f9 Rows.flowWalkRow.domain false) (Rows.flowWalkSpec.post enc Try.prog Try.f9 false true false false) := by
  refine returnsInHanded_of_change (C := Try.checked) own9 started (by kernel_rfl) Try.func9
    (ChangeSpec.witness6 (enc := enc) (C := Try.checked) false ⟨#[], #[.slice none 0 0, (.int .i64 0), (.int .i64 0), .slice none 0 0, .slice none 0 0], []⟩ 20 (by kernel_rfl) (by kernel_rfl) (by kernel_rfl) (by kernel_rfl)) ?_
  intro W base args ds gs before hval hW _ _
  have hW' := hW
  obtain ⟨p, q, hA, hV, rfl, _, _⟩ := hW
  have hlt : ∀ x ∈ p ++ q, x.block < W.heap.size := hW'.lt
  obtain ⟨rfl, rfl⟩ := trodVars_none hV
  simp only [List.append_nil] at hW' hlt
  have hp : Try.f9.params.toList = [22, 3, 3, 24, 24] := by rw [Try.params9]
  have hA' := hA
  rw [hp] at hA'
  have hlen := trodAll_len hA'
  match ds, hlen, hA', hW' with
  | [d0, d1, d2, d3, d4], _, hA', hW' =>
    refine (law_calls (rv := none) (k := 40) (l := pars9) mix9 libOK tabOK (rv_none _) pars9_ok (ok9 20000000) walk_law (hval_of Try.params9 hval) hA' hlt).mono fun e W' ⟨he, hb⟩ => ?_
    subst he
    refine ⟨_, rfl, ⟨_, _, _, [], p, [], hW', trodAll_mk1 (shut_bool Try.underlying4 _), ?_, rfl, hb.frame _, fun h => by cases h⟩⟩
    rw [hp]
    exact args_stay laid9 hb read9 hA' hlt

theorem holds9 : Rows.FlowWalkSaid :=
  OpenClaim.holds_of_wide 9 Try.f9 rfl rfl rfl rfl rfl rfl rfl ⟨rfl, rfl, rfl, rfl, rfl⟩ rfl rfl rfl rfl rfl (by kernel_rfl) Try.func9 (by kernel_rfl)
    (of_decide_eq_true (by kernel_rfl)) (by unfold Func.isWrapper; rw [if_neg (by decide +kernel)]; exact ⟨rfl, rfl⟩)
    (fun os started H enc _ => lifted9 os started H enc)
#print axioms holds9
end Go.Proofs.Ytedmahccogjemaa
