/- RoutineNames returns true, whatever the world: no condition. -/
import Derived.Test.YtkdjilgpknecfaaTab19
import Derived.Test.YtkdjilgpknecfaaEngTop
import Derived.Laws.Rows
import Derived.ChangeSame
import Derived.JoinedOf
import Derived.JoinedAt
import Derived.JoinedStill
import Derived.RowKit
import Derived.ProofKit
namespace Go.Proofs.Ytkdjilgpknecfaa
open Go Go.Eng Go.ChangeShapes Go.WideShapes Go.ChangeAt Go.RowKit

theorem tabOK : ∀ f fn, tab f = some fn → fnP Try.prog lib md f = some fn := by
  intro f fn h
  unfold tab at h
  split at h
  all_goals first
    | (injection h with h; subst h; first | exact ok8 | exact ok9 | exact ok10 | exact ok11 | exact ok13 | exact ok15 | exact ok16 | exact ok17 | exact ok19 | exact ok22 | exact ok25 | exact ok26 | exact ok27 | exact ok28 | exact ok30 | exact ok32 | exact ok34 | exact ok35 | exact ok36 | exact ok39)
    | cases h

theorem clone33 : IsClone Try.prog 33 23 := ⟨_, Try.func33, by kernel_rfl, by kernel_rfl, by kernel_rfl, by kernel_rfl⟩
theorem libOK : ∀ f T, lib f = some T → IsClone Try.prog f T := by
  intro f T h
  unfold lib at h
  split at h
  · injection h with h; subst h; exact clone33
  · cases h

theorem names_walk (w : World) : Calls Try.prog 8 #[] w fun e w' => e = .returned (.bool true) ∧ Below w.heap.size w w' :=
  bool_calls (by kernel_rfl) libOK tabOK run w

theorem own : ownKnob Try.prog.godebug = none := by kernel_rfl

set_option maxRecDepth 100000 in
theorem names_lifted (os : Os) (started : os.Started) (H : Type) (enc : TypeId × Value → H) :
    ReturnsInHanded {} Try.checked os 8 .any (Rows.routineNamesSpec.pre6 enc Try.prog Try.f8 Rows.routineNamesRow.domain false) (Rows.routineNamesSpec.post enc Try.prog Try.f8 false true false false) := by
  refine returnsInHanded_of_change (C := Try.checked) own started (by kernel_rfl) Try.func8
    (ChangeSpec.witness6 (enc := enc) (C := Try.checked) false ⟨#[], #[], []⟩ 8 (by kernel_rfl) (by kernel_rfl) (by kernel_rfl) (by kernel_rfl)) ?_
  intro W base args ds gs before _ hW _ _
  have hW' := hW
  obtain ⟨p, q, hA0, hV, rfl, _, _⟩ := hW
  have hA : DataW.TrodAll enc Try.prog W 0 (fun _ => true) true Try.f8.params.toList args.toList ds p := hA0
  rw [Try.params8] at hA
  obtain ⟨rfl, rfl, rfl⟩ := trodAll_none hA
  obtain ⟨rfl, rfl⟩ := trodVars_none hV
  clear hA0
  simp only [List.append_nil] at hW'
  refine (names_walk W).mono fun e W' ⟨he, hb⟩ => ?_
  subst he
  exact ⟨_, rfl, ⟨_, _, _, [], _, [], hW', trodAll_mk1 (shut_bool Try.underlying4 _), trodAll_mk0, rfl, hb.frame _, fun h => by cases h⟩⟩

theorem names_holds : Rows.RoutineNamesSaid :=
  OpenClaim.holds_of_wide 8 Try.f8 rfl rfl rfl rfl rfl rfl rfl ⟨rfl, rfl, rfl, rfl, rfl⟩ rfl rfl rfl rfl rfl (by kernel_rfl) Try.func8 (by kernel_rfl)
    (of_decide_eq_true (by kernel_rfl)) (by unfold Func.isWrapper; rw [if_neg (by decide +kernel)]; exact ⟨rfl, rfl⟩)
    (fun os started H enc _ => names_lifted os started H enc)
#print axioms names_holds
end Go.Proofs.Ytkdjilgpknecfaa
