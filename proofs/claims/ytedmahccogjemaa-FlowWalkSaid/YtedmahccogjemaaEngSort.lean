/- The library's sort of whole numbers is met by the kit's contract. -/
import Derived.Test.YtedmahccogjemaaEngP
import Derived.Shelf.Sort.Plain
import Derived.Shelf.Slices.In.SortNone
namespace Go.Eng
open Go Go.RowKit Go.Sort

theorem insI_perm (x : Int) : ∀ l, (insI x l).Perm (x :: l)
  | [] => List.Perm.refl _
  | y :: r => by
    unfold insI
    split
    · exact List.Perm.refl _
    · exact ((insI_perm x r).cons y).trans (List.Perm.swap x y r)
theorem sortI_perm : ∀ l, (sortI l).Perm l
  | [] => List.Perm.refl _
  | x :: r => by
    rw [sortI]
    exact (insI_perm x _).trans ((sortI_perm r).cons x)
theorem insI_sorted (x : Int) : ∀ l : List Int, l.Pairwise (· ≤ ·) → (insI x l).Pairwise (· ≤ ·)
  | [], _ => by simp [insI]
  | y :: r, h => by
    rw [List.pairwise_cons] at h
    unfold insI
    split
    · rename_i hc
      have hc := of_decide_eq_true hc
      rw [List.pairwise_cons]
      refine ⟨fun z hz => ?_, List.pairwise_cons.2 h⟩
      rcases List.mem_cons.1 hz with rfl | hz
      · exact hc
      · exact Int.le_trans hc (h.1 z hz)
    · rename_i hc
      have hc := of_decide_eq_false hc
      rw [List.pairwise_cons]
      refine ⟨fun z hz => ?_, insI_sorted x r h.2⟩
      rcases List.mem_cons.1 ((insI_perm x r).mem_iff.1 hz) with rfl | hz
      · omega
      · exact h.1 z hz
theorem sortI_sorted : ∀ l : List Int, (sortI l).Pairwise (· ≤ ·)
  | [] => List.Pairwise.nil
  | x :: r => insI_sorted x _ (sortI_sorted r)
theorem mergeSort_eq (l : List Int) : (l.mergeSort fun x y => decide (x ≤ y)) = sortI l := by
  refine List.Perm.eq_of_pairwise (le := fun a b => a ≤ b) (fun a b _ _ h1 h2 => Int.le_antisymm h1 h2) ?_ (sortI_sorted l) ((List.mergeSort_perm _ _).trans (sortI_perm l).symm)
  have := List.pairwise_mergeSort (le := fun x y : Int => decide (x ≤ y)) (fun a b c h1 h2 => by simp only [decide_eq_true_eq] at *; omega) (fun a b => by simp only [Bool.or_eq_true, decide_eq_true_eq]; omega) l
  exact this.imp fun h => of_decide_eq_true h

theorem sortW_of {w : World} {b off n : Nat} {zs : List Int} {os : Array Obj} (hz : ∀ C e, w.heap[b]? = some (.cells C e (0, 0)) → off + zs.length ≤ C.size) (hb : b < w.heap.size) : SortW w (grow (putRow (Value.int .i64) (Go.Sort.ahead w n) b off zs.toArray) os) b off zs := by
  refine ⟨rfl, rfl, rfl, ?_, fun k hk hne => ?_, fun C e hC => ?_⟩
  · simp [grow, putRow, mapBlock, Go.Sort.ahead]
  · simp only [grow, putRow, mapBlock, Go.Sort.ahead]
    rw [Array.getElem?_append_left (by simpa using hk), Array.getElem?_modify, if_neg (Ne.symm hne)]
  · refine ⟨putCells (Value.int .i64) off zs.toArray C, ?_, by simp [putCells], fun j z hj => ?_⟩
    · simp only [grow, putRow, mapBlock, Go.Sort.ahead]
      rw [Array.getElem?_append_left (by simpa using hb), Array.getElem?_modify, if_pos rfl, hC]
      rfl
    · have hlt := (List.getElem?_eq_some_iff.1 hj).1
      have hs := hz C e hC
      have hlt2 : off + j < C.size := by omega
      simp only [putCells]
      rw [Array.getElem?_mapIdx, Array.getElem?_eq_getElem hlt2]
      simp only [Option.map_some]
      rw [if_pos ⟨by omega, by simpa using hlt⟩]
      rw [show off + j - off = j by omega]
      have : zs.toArray[j]! = z := by
        rw [getElem!_pos zs.toArray j (by simpa using hlt)]
        have := (List.getElem?_eq_some_iff.1 hj).2
        simpa using this
      rw [this]
theorem isSort_of {P : Program} {ρ : Go.Shelf.Ren} (L : Go.Proofs.Lays.n189 P ρ) (hf : ∃ fn, P.funcs[ρ.f 189]? = some fn ∧ fn.body.isSome = true ∧ (fn.name == "runtime.NumGoroutine") = false) : IsSort P (ρ.f 189) := by
  refine ⟨hf, fun p cap w => Go.Proofs.Any.slices_Sort_int_none L p cap w, fun b off cap zs w C e hC hz h0 hlt => ?_⟩
  have hb : b < w.heap.size := (Array.getElem?_eq_some_iff.1 hC).1
  have hH : Go.Sort.Holds (Value.int .i64) w b off zs.toArray := by
    intro j hj
    have hj : j < zs.length := by simpa using hj
    have h1 := hz j zs[j] (List.getElem?_eq_getElem hj)
    refine ⟨?_, ?_⟩
    · rw [getElem!_pos zs.toArray j (by simpa using hj)]
      simp [World.cell?, hC, h1]
    · simp [World.frozen?, hC]
  refine Calls.mono (Go.Proofs.Any.slices_Sort_int L b off cap zs w hH hb hlt) ?_
  rintro en w' ⟨rfl, n, os, rfl⟩
  refine ⟨rfl, ?_⟩
  rw [mergeSort_eq]
  refine sortW_of (fun C' e' hC' => ?_) hb
  rw [hC] at hC'
  injection hC' with hC'
  injection hC' with hC' _ _
  subst hC'
  rw [sortI_length]
  have := hz (zs.length - 1) zs[zs.length - 1] (List.getElem?_eq_getElem (by omega))
  have := (Array.getElem?_eq_some_iff.1 this).1
  omega
end Go.Eng
