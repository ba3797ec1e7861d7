/- FlowNames returns true, whatever the world: no condition. -/
import Derived.Test.YtedmahccogjemaaTab07
import Derived.Test.YtedmahccogjemaaEngTop
import Derived.Laws.Rows
import Derived.ChangeSame
import Derived.JoinedOf
import Derived.JoinedAt
import Derived.JoinedStill
import Derived.RowKit
import Derived.ProofKit
namespace Go.Proofs.Ytedmahccogjemaa
open Go Go.Eng Go.ChangeShapes Go.WideShapes Go.ChangeAt Go.RowKit

set_option maxRecDepth 100000 in
theorem tabOK : ∀ f fn, tab f = some fn → fnP Try.prog lib md f = some fn := by
  intro f fn h
  unfold tab at h
  split at h
  · injection h with h; subst h; exact ok8
  · injection h with h; subst h; exact ok11
  · injection h with h; subst h; exact ok13
  · injection h with h; subst h; exact ok15
  · injection h with h; subst h; exact ok17
  · injection h with h; subst h; exact ok18
  · injection h with h; subst h; exact ok22
  · injection h with h; subst h; exact ok23
  · injection h with h; subst h; exact ok29
  · injection h with h; subst h; exact ok31
  · injection h with h; subst h; exact ok34
  · injection h with h; subst h; exact ok36
  · injection h with h; subst h; exact ok38
  · injection h with h; subst h; exact ok39
  · injection h with h; subst h; exact ok40
  · injection h with h; subst h; exact ok43
  · injection h with h; subst h; exact ok44
  · injection h with h; subst h; exact ok45
  · injection h with h; subst h; exact ok46
  · injection h with h; subst h; exact ok48
  · injection h with h; subst h; exact ok49
  · injection h with h; subst h; exact ok50
  · injection h with h; subst h; exact ok53
  · injection h with h; subst h; exact ok54
  · injection h with h; subst h; exact ok55
  · injection h with h; subst h; exact ok56
  · injection h with h; subst h; exact ok60
  · injection h with h; subst h; exact ok61
  · injection h with h; subst h; exact ok62
  · injection h with h; subst h; exact ok63
  · injection h with h; subst h; exact ok64
  · injection h with h; subst h; exact ok65
  · injection h with h; subst h; exact ok66
  · injection h with h; subst h; exact ok67
  · injection h with h; subst h; exact ok68
  · injection h with h; subst h; exact ok69
  · injection h with h; subst h; exact ok70
  · injection h with h; subst h; exact ok71
  · injection h with h; subst h; exact ok72
  · injection h with h; subst h; exact ok73
  · injection h with h; subst h; exact ok74
  · injection h with h; subst h; exact ok75
  · injection h with h; subst h; exact ok76
  · injection h with h; subst h; exact ok77
  · injection h with h; subst h; exact ok78
  · injection h with h; subst h; exact ok79
  · injection h with h; subst h; exact ok80
  · injection h with h; subst h; exact ok81
  · injection h with h; subst h; exact ok82
  · injection h with h; subst h; exact ok83
  · injection h with h; subst h; exact ok84
  · injection h with h; subst h; exact ok85
  · cases h

theorem libOK : ∀ f T, lib f = some T → IsClone Try.prog f T := by
  intro f T h
  cases h

theorem names_walk (w : World) : Calls Try.prog 8 #[] w fun e w' => e = .returned (.bool true) ∧ Below w.heap.size w w' :=
  bool_calls (by kernel_rfl) libOK tabOK run w

theorem own : ownKnob Try.prog.godebug = none := by kernel_rfl

set_option maxRecDepth 100000 in
theorem names_lifted (os : Os) (started : os.Started) (H : Type) (enc : TypeId × Value → H) :
    ReturnsInHanded {} Try.checked os 8 .any (Rows.flowNamesSpec.pre6 enc Try.prog Try.f8 Rows.flowNamesRow.domain false) (Rows.flowNamesSpec.post enc Try.prog Try.f8 false true false false) := by
  refine returnsInHanded_of_change (C := Try.checked) own started (by kernel_rfl) Try.func8
    (ChangeSpec.witness6 (enc := enc) (C := Try.checked) false ⟨#[], #[], []⟩ 8 (by kernel_rfl) (by kernel_rfl) (by kernel_rfl) (by kernel_rfl)) ?_
  intro W base args ds gs before _ hW _ _
  have hW' := hW
  obtain ⟨p, q, hA0, hV, rfl, _, _⟩ := hW
  have hA : DataW.TrodAll enc Try.prog W 0 (fun _ => true) true Try.f8.params.toList args.toList ds p := hA0
  rw [Try.params8] at hA
  obtain ⟨rfl, rfl, rfl⟩ := trodAll_none hA
  obtain ⟨rfl, rfl⟩ := trodVars_none hV
  clear hA0
  simp only [List.append_nil] at hW'
  refine (names_walk W).mono fun e W' ⟨he, hb⟩ => ?_
  subst he
  exact ⟨_, rfl, ⟨_, _, _, [], _, [], hW', trodAll_mk1 (shut_bool Try.underlying4 _), trodAll_mk0, rfl, hb.frame _, fun h => by cases h⟩⟩

theorem names_holds : Rows.FlowNamesSaid :=
  OpenClaim.holds_of_wide 8 Try.f8 rfl rfl rfl rfl rfl rfl rfl ⟨rfl, rfl, rfl, rfl, rfl⟩ rfl rfl rfl rfl rfl (by kernel_rfl) Try.func8 (by kernel_rfl)
    (of_decide_eq_true (by kernel_rfl)) (by unfold Func.isWrapper; rw [if_neg (by decide +kernel)]; exact ⟨rfl, rfl⟩)
    (fun os started H enc _ => names_lifted os started H enc)
#print axioms names_holds
end Go.Proofs.Ytedmahccogjemaa
