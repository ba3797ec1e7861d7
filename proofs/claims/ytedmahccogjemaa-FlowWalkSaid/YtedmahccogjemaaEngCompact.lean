/- The library's Compact of whole numbers is met by the kit's contract. -/
import Derived.Test.YtedmahccogjemaaEngSort
import Derived.Shelf.Slices.CompactI
namespace Go.Eng
open Go Go.RowKit Go.Sort

def keptAfter (x : Int) : List Int → List Int
  | [] => []
  | y :: r => if y ≠ x then y :: keptAfter y r else keptAfter y r
theorem compI_kept (x : Int) : ∀ r, compI (x :: r) = x :: keptAfter x r
  | [] => rfl
  | y :: r => by
    rw [compI]
    by_cases h : x = y
    · subst h
      rw [decide_eq_true rfl, compI_kept x r, keptAfter, if_neg (by simp)]
    · rw [decide_eq_false h, compI_kept y r, keptAfter, if_pos (Ne.symm h)]
theorem kept_range : ∀ (r : List Int) (x : Int), ((List.range r.length).filter fun j => Lib.keeps (x :: r).toArray (j + 1)).map (fun j => (x :: r).toArray[j + 1]!) = keptAfter x r
  | [], _ => rfl
  | y :: r, x => by
    have ih := kept_range r y
    have h0 : Lib.keeps (x :: y :: r).toArray (0 + 1) = decide (y ≠ x) := by simp [Lib.keeps]
    have hs : ∀ j, Lib.keeps (x :: y :: r).toArray (j + 1 + 1) = Lib.keeps (y :: r).toArray (j + 1) := by
      intro j
      simp [Lib.keeps]
    have hg : ∀ j, (x :: y :: r).toArray[j + 1 + 1]! = (y :: r).toArray[j + 1]! := by intro j; simp
    have hrest : (((List.range r.length).map Nat.succ).filter fun j => Lib.keeps (x :: y :: r).toArray (j + 1)).map (fun j => (x :: y :: r).toArray[j + 1]!) = keptAfter y r := by
      rw [List.filter_map, List.map_map, ← ih]
      have e1 : ((fun j => Lib.keeps (x :: y :: r).toArray (j + 1)) ∘ Nat.succ) = fun j => Lib.keeps (y :: r).toArray (j + 1) := funext fun j => hs j
      have e2 : ((fun j => (x :: y :: r).toArray[j + 1]!) ∘ Nat.succ) = fun j => (y :: r).toArray[j + 1]! := funext fun j => hg j
      rw [e1, e2]
    rw [List.length_cons, List.range_succ_eq_map, List.filter_cons]
    rw [h0, keptAfter]
    by_cases h : y ≠ x
    · rw [if_pos h, if_pos (decide_eq_true h), List.map_cons, hrest]
      simp
    · rw [if_neg h, if_neg (by simpa using h), hrest]
theorem compact_eq : ∀ zs : List Int, Lib.compact zs = compI zs
  | [] => rfl
  | x :: r => by
    rw [compI_kept, ← kept_range r x]
    unfold Lib.compact Lib.compactUpTo
    rw [List.length_cons, List.range_succ_eq_map, List.filter_cons]
    rw [if_pos (by simp [Lib.keeps])]
    rw [List.map_cons, List.filter_map, List.map_map]
    rfl

theorem isCompact_of {P : Program} {ρ : Go.Shelf.Ren} (L : Go.Proofs.Lays2.n20 P ρ) (hf : ∃ fn, P.funcs[ρ.f 20]? = some fn ∧ fn.body.isSome = true ∧ (fn.name == "runtime.NumGoroutine") = false) : IsCompact P (ρ.f 20) := by
  refine ⟨hf, fun p cap w => Go.Proofs.Any.slices_Compact_int_empty L p cap w, fun b off cap zs w C e hC hz h0 hlt hcap => ?_⟩
  have hb : b < w.heap.size := (Array.getElem?_eq_some_iff.1 hC).1
  have hH : Go.Sort.Holds (Value.int .i64) w b off zs.toArray := by
    intro j hj
    have hj : j < zs.length := by simpa using hj
    have h1 := hz j zs[j] (List.getElem?_eq_getElem hj)
    refine ⟨?_, ?_⟩
    · rw [getElem!_pos zs.toArray j (by simpa using hj)]
      simp [World.cell?, hC, h1]
    · simp [World.frozen?, hC]
  refine Calls.mono (Go.Proofs.Any.slices_Compact_int L b off cap zs w hH (by omega) hcap) ?_
  rintro en w' ⟨rfl, q, rfl⟩
  rw [compact_eq]
  refine ⟨rfl, ?_⟩
  have hle := compI_length zs
  have := sortW_of (w := w) (b := b) (off := off) (n := q) (zs := compI zs ++ List.replicate (zs.length - (compI zs).length) 0) (os := #[]) (fun C' e' hC' => by
    rw [hC] at hC'
    injection hC' with hC'
    injection hC' with hC' _ _
    subst hC'
    have h2 := hz (zs.length - 1) zs[zs.length - 1] (List.getElem?_eq_getElem (by omega))
    have h2 := (Array.getElem?_eq_some_iff.1 h2).1
    simp only [List.length_append, List.length_replicate]
    omega) hb
  rw [grow_empty] at this
  refine ⟨this.os, this.tape, this.output, this.size, this.other, fun C e hC => ?_⟩
  obtain ⟨C', h1, h2, h3⟩ := this.row C e hC
  refine ⟨C', h1, h2, fun j z hj => h3 j z ?_⟩
  rw [List.getElem?_append_left (List.getElem?_eq_some_iff.1 hj).1]
  exact hj
end Go.Eng
